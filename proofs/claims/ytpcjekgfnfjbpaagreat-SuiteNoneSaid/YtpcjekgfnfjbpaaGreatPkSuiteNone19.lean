/-
  Part 19 of SuiteNone. Conditions: named in each theorem.
-/
import Derived.Test.YtpcjekgfnfjbpaaGreatPkSuiteNone17
import Derived.Test.YtpcjekgfnfjbpaaGreatPkSuiteNone18
import Derived.LoopIn
import Derived.LoopNIn
import Derived.RangeFuncBound
import Derived.RangeFuncBox
import Derived.RangeFuncFrom
import Derived.RangeFuncLeaves
import Derived.RangeFuncNested
import Derived.Shelf.Abstract
import Derived.Shelf.RegionOpen
import Derived.StillTailTactics
import Derived.TacticsInMore
set_option linter.unusedVariables false
set_option linter.unusedSimpArgs false
set_option maxRecDepth 100000
set_option maxHeartbeats 3200000
namespace Go.bI
open Go.RowKit
section
variable {F : Fence} {n : Nat} {P : Program} {ops : Array Oper} {Q : Exit -> Act -> World -> Prop} {K : Act -> World -> Prop} {a : Act} {w : World} {rest : List Oper} {o : Oper}
end
def iM (l:List Tm) (k:Nat):Tm:=l.getD k (0,0,0)
theorem zl {l:List Tm} {k:Nat} {t:Tm} (h:l[k]? =some t):iM l k=t:=by unfold iM;rw [Li,h];rfl
def GJ (S:TS) (n:Int):List Int × Bool:=if gP S.l n 9=true then (S.tx.getD (iM S.l n.toNat).2.1.toNat [],true) else ([],false)
def kM (n:Nat) (f:Nat->Int):List Int:=(List.range n).map f
@[simp] theorem dW (n:Nat) (f:Nat->Int):(kM n f).length=n:=by simp [kM]
theorem om {n i:Nat} {f:Nat->Int} (h:i<n):bf (kM n f) i=f i:=by
 unfold bf kM;rw [Li,List.getElem?_map,List.getElem?_range h]
 rfl
theorem pV {n:Nat} {f:Nat->Int} (h:∀i,i<n->0<=f i/\f i<256):okB (kM n f):=by
 intro x hx;obtain ⟨i,hi,rfl⟩:=List.mem_map.1 hx;exact h i (List.mem_range.1 hi)
theorem FZ (l:List Int):kM l.length (bf l)=l:=by
 apply List.ext_getElem?
 intro i;by_cases h:i<l.length
 ·unfold kM bf;rw [List.getElem?_map,List.getElem?_range h,sU h];simp [Li,sU h]
 ·rw [List.getElem?_eq_none (by simpa using h),List.getElem?_eq_none (by omega)]
theorem sF {n:Nat} {f g:Nat->Int} (h:∀i,i<n->f i=g i):kM n f=kM n g:=List.map_congr_left fun i hi=> h i (List.mem_range.1 hi)
theorem Rd.kM {k:IntKind} {w:World} {v:Value} {n:Nat} {f:Nat->Int} (h:Rd k w v n f):Rd k w v (Go.bI.kM n f).length (bf (Go.bI.kM n f)):=by
 rw [dW];exact h.congr fun i hi=> (om hi).symm
def wV (n:Int) (i:Nat):Int:=n / 2 ^ (8 * (8 - 1 - i)) % 256
theorem Aj (n:Int) (i:Nat):0<=wV n i/\wV n i<256:=by unfold wV;omega
theorem WX {n:Int} (h0:0<=n) (h1:n<2 ^ 64):big (wV n) 8=n:=by
 have:=GR (n:=n) (s:=8) (by omega) 8 (bB _);rw [show (8:Nat) * (8 - 8)=0 from rfl,Int.pow_zero,Int.ediv_one] at this;exact this
def fI (n:Int):List Int:=kM 9 (fH 1 (fun _=> 247) (wV n))
theorem iI (n:Int):(fI n).length=9:=dW _ _
theorem SL (n:Int):okB (fI n):=pV (gy (n:=1) (m:=8) (fun _ _=> by decide) fun i _=> Aj n i)
theorem abl (n:Int):bf (fI n) 0=247:=om (by decide)
theorem abk (n:Int) (i:Nat) (h:i<8):bf (fI n) (1+i)=wV n i:=(om (by omega)).trans nV
def NY (l:List Int) (i:Nat):Int:=bf l (1+i)
def iN (S:TS) (l:List Int):Option Nat:=if l.length=9/\bf l 0=247/\mZ (NY l) 8=0/\kF (NY l) 8<S.l.length then some (kF (NY l) 8).toNat else none
theorem Bt {f g:Nat->Int}:∀k:Nat,(∀i,i<k->f i=g i)->big f k=big g k
 | 0,_=> rfl
 | k+1,h=> by rw [big,big,Bt k fun i hi=> h i (by omega),h k (by omega)]
theorem SN {n:Int} (h0:0<=n) (h1:n<=4611686018427387904):mZ (NY (fI n)) 8=0/\kF (NY (fI n)) 8=n:=by
 have e:big (NY (fI n)) 8=n:=(Bt 8 fun i hi=> abk n i hi).trans (WX h0 (by omega));unfold mZ kF;rw [e,if_neg (by decide),if_neg (by decide),if_neg (by omega),if_neg (by omega)];exact ⟨rfl,rfl⟩
theorem rZ {S:TS} {n:Nat} (h:n<S.l.length) (hl:S.l.length<=4611686018427387904):iN S (fI n)=some n:=by
 obtain ⟨h1,h2⟩:=SN (n:=(n:Int)) (by omega) (by omega);unfold iN;rw [if_pos ⟨iI _,abl _,h1,by rw [h2];omega⟩,h2,EM]
theorem Br {f:Nat->Int}:∀k,(∀i,i<k->0<=f i)->0<=big f k
 | 0,_=> Int.le_refl _
 | k+1,h=> by have:=Br k fun i hi=> h i (by omega);have:=h k (by omega);rw [big];omega
theorem tQ {f:Nat->Int} {k:Nat} (h:∀i,i<k->0<=f i):0<=kF f k:=by
 unfold kF
 split
 ·exact Int.le_refl _
 ·exact Br k h
theorem kC {S:TS} {l:List Int} {n:Nat} (hb:okB l) (h:iN S l=some n):n<S.l.length:=by
 unfold iN at h
 split at h
 ·rename_i h'
  have h0:0<=kF (NY l) 8:=tQ fun i hi=> (hb.at _ (by omega)).1;obtain rfl:=fT h;have:=h'.2.2.2;omega
 ·cases h
def TS.few (S:TS):Prop:=∀s,wI S.l s<=S.l.length
theorem TS.few.nil:TS.few ⟨[], []⟩:=fun s=> Int.le_refl _
theorem TS.few.add {S:TS} (h:S.few) {t:Tm} (ht:t.1=1->t.2.2<=S.l.length):(S.add t).few:=fun s=> by
 have:=h s;rw [GY];show wI (S.l++ [t]) s<=_;rw [qY]
 split
 ·rename_i h'
  have:=ht h'.1;unfold nD;omega
 ·omega
theorem TS.few.put {S:TS} (h:S.few) {t:Tm} (ht:t.1≠1):(S.put t).few:=by
 unfold TS.put
 split
 ·exact h.add fun e=> absurd e ht
 ·exact h
theorem TS.few.draw {S:TS} (h:S.few) (s:Int):(S.draw s).few:=by
 unfold TS.draw
 split
 ·exact h.add fun _=> h s
 ·exact h
theorem TS.few.text {S:TS} (h:S.few) (b:List Int):(S.text b).few:=by
 unfold TS.text
 split
 ·exact h
 ·exact fun s=> by
   have:=(h.add (t:=((9,(S.tx.length:Int),0):Tm)) (fun e=> absurd e (by simp))) s;exact this
abbrev TA:Type:=List Int × Int × TS
def qX (k:Int) (S:TS) (l:List Int):TA:=match iN S l with
 | some n=> (fI (lY S (k,n,0)).1,0,S.put (k,n,0))
 | none=> ([],11,S)
def BU (S:TS) (n:Nat):Int:=(iM S.l n).1
def lX (k:Int) (S:TS) (a b:List Int):TA:=match iN S a,iN S b with
 | some n,some m=> if k=4/\BU S n≠2 then ([],11,S) else (fI (lY S (k,n,m)).1,0,S.put (k,n,m))
 | _,_=> ([],11,S)
def vY (S:TS) (s:Int):TA:=if isSort s=true then (fI S.l.length,0,S.draw s) else ([],2,S)
def xX (S:TS) (a x:List Int):TA:=match iN S a with
 | some n=> (fI (lY (S.text x) (8,n,xQ S x)).1,0,(S.text x).put (8,n,xQ S x))
 | none=> ([],11,S)
structure eU (F:Nat->Prop) (w:World) (v:Value) (l:List Int):Prop where
 ok:okB l
 rd:Rd .u8 w v l.length (bf l)
 off:0<l.length->∀b,v.ownBlock=some b->¬ F b
section
variable {F F' G : Nat -> Prop} {w w' : World} {v : Value} {l : List Int}
theorem Rd.OY {k:IntKind} {n:Nat} {f:Nat->Int} (h:Rd k w v n f) (hn:0<n) {b:Nat} (hb:v.ownBlock=some b):b<w.heap.size:=by
 obtain ⟨a,c,rfl,_,_,_,h4⟩:=h;obtain ⟨g,o,rfl,hlt,_⟩:=h4 hn;obtain rfl:g=b:=by simpa [Value.ownBlock] using hb
 exact hlt
theorem eU.below (h:eU F w v l) (hb:Below w.heap.size w w'):eU F w' v l:=⟨h.ok,h.rd.below hb,h.off⟩
structure uM (p:Nat) (F:Nat->Prop) (w w':World):Prop where
 tT:iH (fun b=> b=p\/F b) w w'
 u8:∀b,b<w.heap.size->¬ F b->∀i x,w.cell? ⟨b,i,none⟩=some (.int .u8 x)->w'.cell? ⟨b,i,none⟩=some (.int .u8 x)
theorem uM.of_below {p:Nat} (h:Below w.heap.size w w') (F:Nat->Prop):uM p F w w':=⟨.of_below h _,fun b hb _ i x hx=> (h.cell (p:=⟨b,i,none⟩) hb).trans hx⟩
theorem uM.trans {p:Nat} {w'':World} (h:uM p F w w') (h':uM p F' w' w'') (hF:∀b,F' b->F b\/w.heap.size<=b):uM p F w w'':=
 ⟨h.tT.trans h'.tT fun b hb h1=> h1.imp id fun h2=> (hF b h2).elim id fun h3=> by omega,fun b hb hn i x hx=> h'.u8 b (uK hb h.tT.size) (fun h2=> (hF b h2).elim hn fun h3=> by omega) i x (h.u8 b hb hn i x hx)⟩
theorem uM.Uv {p:Nat} (h:iH F w w'):uM p F w w':=⟨h.mono fun b _ hb=> .inr hb,fun b hb hn i x hx=> (h.cell (p:=⟨b,i,none⟩) hb hn).trans hx⟩
theorem Rd.chS {p n:Nat} {f:Nat->Int} (h:Rd .u8 w v n f) (hc:uM p F w w') (hne:0<n->∀b,v.ownBlock=some b->¬ F b):Rd .u8 w' v n f:=by
 obtain ⟨a,c,rfl,h1,h2,h3,h4⟩:=h;refine ⟨a,c,rfl,h1,h2,h3,fun hn=> ?_⟩;obtain ⟨b,o,rfl,hlt,hcell⟩:=h4 hn;have:=hc.tT.size;exact ⟨b,o,rfl,by omega,fun i hi=> hc.u8 b hlt (hne hn b rfl) _ _ (hcell i hi)⟩
theorem eU.chS {p:Nat} (h:eU F w v l) (hc:uM p F w w') (hF:∀b,F' b->F b\/w.heap.size<=b):eU F' w' v l:=by
 refine ⟨h.ok,h.rd.chS hc h.off,fun hn b hb hf=> ?_⟩;rcases hF b hf with h1 | h1
 ·exact h.off hn b hb h1
 ·have:=h.rd.OY hn hb;omega
theorem eU.nil (F:Nat->Prop) (w:World):eU F w (.slice none 0 0) [] :=⟨(fun _ h=> by cases h),Rd.nil _ _ _,aK⟩
theorem eU.own {e:TypeId} {N n:Nat} {f:Nat->Int} (h:Own .u8 e N w v n f) (hf:∀i,i<n->0<=f i/\f i<256) (hF:∀b,F b->b<N):eU F w v (kM n f):=
 ⟨pV hf,h.rd.kM,fun _ b hb hFb=> by have:=h.block b hb;have:=hF b hFb;omega⟩
theorem eU.slice (h:eU F w v l):∃a c,v=.slice a l.length c:=by obtain ⟨a,c,e,_⟩:=h.rd;exact ⟨a,c,e⟩
end
end Go.bI
namespace Go.Proofs.YtpcjekgfnfjbpaaGreat
open Go.RowKit Go.bI Go.ChangeShapes Go.Maps
attribute [local go_sem ↓] Go.wp_at_zero Go.wp_at_succ
section
variable {B : Nat} {w w' : World} {p mb mt : Nat} {vl vb : Value} {tv : Nat -> Value} {S : TS}
end
section
variable {B : Nat} {w w' : World} {p mb mt : Nat} {vl vb : Value} {tv : Nat -> Value} {S : TS}
theorem Po (h:Cc B w p mb mt vl vb tv S) (n:Int) (hn:gP S.l n 9=false):Calls Tryz.prog 62 #[.pointer (some ⟨p,0,none⟩),.int .i64 n] w fun e w'=> e=.returned (.tuple #[.slice none 0 0,.bool false])/\w'=w:=by
 have H:=ak h;have HN:=ak hn;clear h hn
 go_enter Tryz.func62,Tryz.ntmps62
 go_wp2_with fail;refine (pK H.out).mono ?_;rintro e w1' ⟨rfl,rfl⟩;go_wp2_with fail;refine (gV H.out n 9).mono ?_;rintro e w2 ⟨rfl,rfl⟩;rw [HN.out];go_wp2;go_ret2;exact ⟨rfl,rfl⟩
theorem LP (h:Cc B w p mb mt vl vb tv S) (a j:Nat) (b:List Int) (z:Int) (ha:S.l[a]? =some (9,(j:Int),z)) (hb:S.tx[j]? =some b) (hl:S.l.length<=1000) (hx:S.tx.length<=1000):
  Calls Tryz.prog 62 #[.pointer (some ⟨p,0,none⟩),.int .i64 (a:Int)] w fun e w'=> ∃v,e=.returned (.tuple #[v,.bool true])/\Rd .u8 w' v b.length (bf b)/\Below w.heap.size w w':=by
 have H:=ak h;have HN:Hid (gP S.l (a:Int) 9=true):=ak (oN.2 ⟨a,rfl,_,ha,.inr rfl⟩);have c0:=h.c0;have c3:=h.c3;have hla:=(List.getElem?_eq_some_iff.1 ha).1;have hlb:=(List.getElem?_eq_some_iff.1 hb).1;obtain ⟨g,cap,ev,_,_,_,hc⟩:=h.ls.form (by omega);obtain ⟨g2,cap2,ev2,_,_,_,hc2⟩:=h.bs.form (by omega);have HO:=ak (h.bt j b hb);obtain ⟨au,cu,eu,_⟩:=(h.bt j b hb).yQ.slice;have c1:w.cell? ⟨g,a * 3+1,none⟩=some (.int .i64 (j:Int)):=(hc a hla 1 (by decide)).trans (congrArg some (ER ha));have c2:w.cell? ⟨g2,j,none⟩=some (.slice au b.length cu):=by
  have:=hc2 j hlb 0 (by decide);rw [Nat.mul_one,Nat.add_zero,eu] at this;exact this
 rw [eu] at HO;rw [ev] at c0;rw [ev2] at c3;have h1:(a:Int)<(S.l.length:Int):=by omega
 have h2:(j:Int)<(S.tx.length:Int):=by omega
 have h3:(a:Int)<1000000:=by omega
 have h4:(j:Int)<1000000:=by omega
 have HBL:Hid (b.length<=1048576):=ak (h.okx b (List.mem_of_getElem? hb)).2;clear h ha hb hc hc2 ev ev2 eu hl hx
 go_enter Tryz.func62,Tryz.ntmps62
 go_wp2_with fail;refine (pK H.out).mono ?_;rintro e w1' ⟨rfl,rfl⟩;go_wp2_with fail;refine (gV H.out a 9).mono ?_;rintro e w2 ⟨rfl,rfl⟩;rw [HN.out];go_upto_region 3 with (fail)
 apply iQ (n:=30) [.e,.e,.e,.e,.e,.e,.e,.e,.e,.e,.e,.e,.e,.e,.c,.c,.e] 2 (by kernel_rfl) (by kernel_rfl) (by kernel_rfl) rfl
 ·intro w5 QS;have d0:=(QS.cell (p:=⟨p,0,none⟩) (World.block_lt_of_cell? _ _ c0)).trans c0;have d3:=(QS.cell (p:=⟨p,3,none⟩) (World.block_lt_of_cell? _ _ c3)).trans c3;have d1:=(QS.cell (p:=⟨g,a * 3+1,none⟩) (World.block_lt_of_cell? _ _ c1)).trans c1;have d2:=(QS.cell (p:=⟨g2,j,none⟩) (World.block_lt_of_cell? _ _ c2)).trans c2;simp only [eZ,Cl.Hu,cond_true,cond_false]
  repeat still_step
  exact wpStill_nil rfl
 ·intro w5;simp only [eZ,Cl.XA,cond_true,cond_false]
  repeat still_step
  exact wpStill_nil rfl
 ·simp only [eZ,Cl.oK,cond_true,cond_false];refine oW ((bM _ _).drew) (fun K hK=> ?_)
  go_simp
  refine (xG _ _ _ _ ((HO.out.below ((bM w2.heap.size w2).drew)).rd) (by have:=HBL.out;omega)).mono ?_;rintro e w5 ⟨u,rfl,hu,b5⟩;have OZ:Below w2.heap.size w2 w5:=((bM w2.heap.size w2).drew).trans b5;refine hK _ _ OZ ?_;clear hK K;have HU:=ak hu.rd;obtain ⟨a5,c5,e5,_⟩:=hu.yQ.slice;subst e5;refine oW OZ (fun K hK=> ?_)
  go_simp
  refine hK _ _ OZ (oV ?_);clear hK K;go_wp2;refine DY ?_;go_wp2;go_ret2;exact ⟨_,rfl,HU.out,OZ⟩
end
end Go.Proofs.YtpcjekgfnfjbpaaGreat
namespace Go.Proofs.YtpcjekgfnfjbpaaGreat
open Go.RowKit Go.bI
def pI (S:TS) (a b:List Int):List Int × Int:=match iN S a,iN S b with
 | some n,some m=> if BU S m=4/\(yU S (iM S.l m).2.1).1.2.1=n then (fI (iM S.l m).2.2,0) else ([],20)
 | _,_=> ([],11)
def lW (S:TS) (a b:List Int):List Int × Int:=match iN S a,iN S b with
 | some n,some m=> if BU S m=5/\(iM S.l m).2.1=n then (fI (iM S.l m).2.2,0) else ([],20)
 | _,_=> ([],11)
def qg (S:TS) (v x g:List Int):Int:=match iN S v,iN S g with
 | some n,some m=> if BU S m=8/\BU S n=3/\(iM S.l n).2.1=(iM S.l m).2.1/\GJ S (iM S.l m).2.2=(x,true) then 0 else 22
 | _,_=> 11
end Go.Proofs.YtpcjekgfnfjbpaaGreat
namespace Go.Proofs.YtpcjekgfnfjbpaaGreat
open Go.RowKit Go.bI Go.ChangeShapes Go.Maps
attribute [local go_sem ↓] Go.wp_at_zero Go.wp_at_succ
theorem Ti (w:World):Calls Tryz.prog 106 #[] w fun e w'=> ∃p F,e=.returned (.pointer (some ⟨p,0,none⟩))/\zh w.heap.size w' p F ⟨[], []⟩/\Below w.heap.size w w':=by
 have HM:=ak (wL.made Tryz.prog 96 3 w (fun i=> lv LK [] i 0) (fun i=> match ([] :List Tm)[i]? with | some x=> vP (BS [] x) | none=> undef));have HM2:=ak (wL.made Tryz.prog 9 3 (w.alloc (.map #[] 0)) (fun i=> lv txV [] i 0) (fun i=> match ([] :List (List Int))[i]? with | some x=> vP (Ic ⟨[], []⟩ x) | none=> undef));have hmk:∀w,(Instr.makeMap 160 none).run Tryz.prog w=.ok (.map (some w.heap.size)) (w.alloc (.map #[] 0)):=fun w=> rfl;have aoZ:∀w,(Instr.makeMap 161 none).run Tryz.prog w=.ok (.map (some w.heap.size)) (w.alloc (.map #[] 0)):=fun w=> rfl
 go_enter Tryz.func106,Tryz.ntmps106
 go_wp2;go_ret;obtain ⟨W2,hW2⟩:∃W2,(w.alloc (.map #[] 0)).alloc (.map #[] 0)=W2:=⟨_,rfl⟩
 have b1:Below w.heap.size w W2:=by rw [<-hW2];exact ((bM _ _).alloc (bB _) _).alloc (by simp) _
 have hs:W2.heap.size=w.heap.size+1+1:=by rw [<-hW2];simp
 have m1:=(HM.out.alloc (.map #[] 0))
 have m2:=HM2.out;rw [hW2] at m1 m2;rw [World.size_alloc] at m2;rw [hW2,←hs];obtain ⟨O,hO⟩:∃O,O=Obj.cells #[.slice none 0 0,.map (some w.heap.size),.map (some (w.heap.size+1)),.slice none 0 0,.int .i64 0,.int .i64 0,.int .i64 0,.int .i64 0,.int .i64 0] 164:=⟨_,rfl⟩
 have hb:=heap_alloc_new W2 (.cells #[.slice none 0 0,.map (some w.heap.size),.map (some (w.heap.size+1)),.slice none 0 0,.int .i64 0,.int .i64 0,.int .i64 0,.int .i64 0,.int .i64 0] 164);have hc:=fun i=> cell_of_row _ _ i _ _ (0,0) hb;refine ⟨W2.heap.size,_,rfl,⟨w.heap.size,w.heap.size+1,.slice none 0 0,.slice none 0 0,fun _=> .slice none 0 0,⟨⟨⟨_,hb,rfl⟩,hc 0,hc 1,hc 2,hc 3,fun k hk=> ?_,kJ.nil _ _ _ _,m1.alloc _,m2.alloc _,kJ.nil _ _ _ _,fun j b hj=> (by simp at hj),by omega,by omega,bB _,by omega,fun b hb=> (by cases hb),fun b hb=> (by cases hb)⟩,List.nodup_nil,List.nodup_nil,fun j hj=> absurd hj (Nat.not_lt_zero _),fun t ht=> (by cases ht),fun b hb=> (by cases hb)⟩,TS.Ok.empty,fun b=> Iff.rfl⟩,b1.alloc b1.size _⟩;rcases (by omega:k=0\/k=1\/k=2\/k=3\/k=4) with rfl | rfl | rfl | rfl | rfl<;> exact hc _
theorem TL {B:Nat} {w:World} {p:Nat} {F:Nat->Prop} {S:TS} (h:zh B w p F S):Calls Tryz.prog 115 #[.pointer (some ⟨p,0,none⟩)] w fun e w'=> e=.returned (vP S.l.length)/\w'=w:=by
 obtain ⟨mb,mt,vl,vb,tv,h1,_,_⟩:=h;exact Tk h1
theorem Mg {B:Nat} {w:World} {p:Nat} {F:Nat->Prop} {S:TS} (h:zh B w p F S) (n:Int) (hl:S.l.length<=1000) (hx:S.tx.length<=1000):Calls Tryz.prog 62 #[.pointer (some ⟨p,0,none⟩),.int .i64 n] w fun e w'=> ∃v,e=.returned (.tuple #[v,.bool (GJ S n).2])/\Rd .u8 w' v (GJ S n).1.length (bf (GJ S n).1)/\Below w.heap.size w w':=by
 obtain ⟨mb,mt,vl,vb,tv,h1,h2,_⟩:=h;unfold GJ;by_cases hn:gP S.l n 9=true
 ·rw [if_pos hn];obtain ⟨a,rfl,⟨k,A,z⟩,ht,hk⟩:=oN.1 hn;have hk9:k=9:=hk.elim (aK) id;subst hk9;obtain ⟨j,rfl,hj⟩:∃j:Nat,A=j/\j<S.tx.length:=by
   rcases h2.ok a _ ht with ⟨h1,_⟩ | ⟨h1,_⟩ | ⟨h1,_⟩ | ⟨h1,_⟩ | ⟨h1,_⟩ | ⟨_,⟨j,h1,h2⟩,_⟩ | ⟨h1,_⟩
   ·simp only at h1;omega
   ·simp only at h1;omega
   ·simp only at h1;omega
   ·simp only at h1;omega
   ·simp only at h1;omega
   ·exact ⟨j,h1,h2⟩
   ·simp only at h1;omega
  have e:=LP h1 a j S.tx[j] z ht (sU hj) hl hx;rw [EM,zl ht];show Calls _ _ _ _ fun e w'=> ∃v,e=.returned (.tuple #[v,.bool true])/\Rd .u8 w' v (S.tx.getD j []).length (bf (S.tx.getD j []))/\_;rw [Li,sU hj];exact e
 ·rw [if_neg hn];refine (Po h1 n (by simpa using hn)).mono ?_;rintro e w' ⟨rfl,rfl⟩;exact ⟨_,rfl,(Go.bI.Own.nil .u8 5 0 w' (bf [])).rd,bM _ _⟩
structure kP (w:World) (p:Nat) (kd:Int) (sd:Nat->Int) (n:Int) (s:Value):Prop where
 row:mo w p 105 35
 ck:w.cell? ⟨p,0,none⟩=some (.int .i64 kd)
 cs:∀i,i<32->w.cell? ⟨p,1+i,none⟩=some (.int .u8 (sd i))
 cn:w.cell? ⟨p,33,none⟩=some (.int .i64 n)
 cp:w.cell? ⟨p,34,none⟩=some s
section
variable {B : Nat} {w w' : World} {p q : Nat} {F G G' : Nat -> Prop} {S S' : TS} {kd n : Int} {sd : Nat -> Int} {s : Value}
theorem kP.keep (h:kP w p kd sd n s) (hc:iH F w w') (hF:¬ F p):kP w' p kd sd n s:=
 have hl:=h.row.lt
 ⟨h.row.heap (hc.block p hl hF),(hc.cell (p:=⟨p,0,none⟩) hl hF).trans h.ck,fun i hi=> (hc.cell (p:=⟨p,1+i,none⟩) hl hF).trans (h.cs i hi),(hc.cell (p:=⟨p,33,none⟩) hl hF).trans h.cn,(hc.cell (p:=⟨p,34,none⟩) hl hF).trans h.cp⟩
theorem kP.below (h:kP w p kd sd n s) (hb:Below w.heap.size w w'):kP w' p kd sd n s:=h.keep (.of_below hb fun _=> False) id
theorem kP.rd (h:kP w p kd sd n s):Rd .u8 w (.slice (some ⟨p,1,none⟩) 32 32) 32 sd:=⟨_,_,rfl,bB _,by decide,(fun h=> by cases h),fun _=> ⟨p,1,rfl,h.row.lt,h.cs⟩⟩
structure RN (B:Nat) (w:World) (p q:Nat) (G:Nat->Prop) (S:TS):Prop where
 r:kP w p 2 (fun _=> 0) 0 (.pointer (some ⟨q,0,none⟩))
 st:zh B w q G S
 few:S.few
 hp:B<=p
 np:¬ G p
def sW (B:Nat) (w:World) (p:Nat) (F:Nat->Prop) (S:TS):Prop:=∃q G,RN B w p q G S/\∀b,F b ↔ b=p\/G b
theorem RN.below (h:RN B w p q G S) (hb:Below w.heap.size w w'):RN B w' p q G S:=⟨h.r.below hb,h.st.below hb,h.few,h.hp,h.np⟩
theorem RN.hB (h:RN B w p q G S):B<=w.heap.size:=jG h.hp (Nat.le_of_lt h.r.row.lt)
theorem RN.lt (h:RN B w p q G S) {b:Nat} (hb:b=p\/G b):b<w.heap.size:=by
 rcases hb with rfl | hb
 ·exact h.r.row.lt
 ·exact h.st.lt hb
theorem RN.put (h:RN B w p q G S) (h1:zh B w' q G' S') (hc:iH G w w') (hf:∀b,G' b->G b\/w.heap.size<=b) (hw:S'.few):RN B w' p q G' S':=
 ⟨h.r.keep hc h.np,h1,hw,h.hp,fun hb=> (hf p hb).elim h.np fun h'=> by have:=h.r.row.lt;omega⟩
theorem sW.below (h:sW B w p F S) (hb:Below w.heap.size w w'):sW B w' p F S:=by obtain ⟨q,G,h,hF⟩:=h;exact ⟨q,G,h.below hb,hF⟩
theorem sW.hi (h:sW B w p F S) {b:Nat} (hb:F b):B<=b:=by
 obtain ⟨q,G,h,hF⟩:=h;rcases (hF b).1 hb with rfl | hb
 ·exact h.hp
 ·exact h.st.hi hb
theorem sW.lt (h:sW B w p F S) {b:Nat} (hb:F b):b<w.heap.size:=by
 obtain ⟨q,G,h,hF⟩:=h;exact h.lt ((hF b).1 hb)
theorem sW.ok (h:sW B w p F S):S.Ok:=by obtain ⟨q,G,h,hF⟩:=h;exact h.st.ok
def zf (B:Nat) (w:World) (p:Nat) (F:Nat->Prop) (v:Value) (r:TA) (w':World):Prop:=∃F',sW B w' p F' r.2.2/\eU F' w' v r.1/\iH F w w'/\∀b,F' b->F b\/w.heap.size<=b
def CQ (S:TS) (l:List Int):Int × Bool:=match iN S l with | some n=> ((n:Int),true) | none=> (0,false)
def yB (S:TS) (l:List Int):Int × Tm × Int:=match iN S l with | some n=> ((n:Int),iM S.l n,0) | none=> (0,(0,0,0),11)
theorem dP (h:kP w p kd sd n s):Calls Tryz.prog 63 #[.pointer (some ⟨p,0,none⟩)] w fun e w'=> e=.returned (.int .i64 kd)/\w'=w:=by
 have ck:=h.ck;clear h
 go_enter Tryz.func63,Tryz.ntmps63
 go_wp2;go_ret;exact ⟨rfl,rfl⟩
theorem jS (w:World):Calls Tryz.prog 63 #[.pointer none] w fun e w'=> e=.returned (.int .i64 0)/\w'=w:=by
 go_enter Tryz.func63,Tryz.ntmps63
 go_wp2;go_ret;exact ⟨rfl,rfl⟩
theorem kS (n:Int) (h0:0<=n) (h1:n<=4611686018427387904) (w:World):Calls Tryz.prog 77 #[.int .i64 n,.int .i64 0] w fun e w'=> ∃v,e=.returned (.tuple #[v,.int .i64 0])/\Go.bI.Own .u8 5 w.heap.size w' v 9 (fH 1 (fun _=> 247) (wV n))/\Below w.heap.size w w':=by
 have HP:=ak (fun w=> Mj n 8 w (by decide) (by decide) h0 h1 (aK));clear h0 h1
 go_enter Tryz.func77,Tryz.ntmps77
 go_wp2_with fail;refine (HP.out _).mono ?_;rintro e w1 ⟨u,rfl,hu,b1⟩;have HU:=ak (hu.rd);have B1:=ak b1;obtain ⟨au,cu,rfl,_⟩:=hu.rd;clear hu b1;go_wp2_with (at_builtin;refine iV rfl _ _ 23 rfl w.heap.size 5 .u8 1 kN sV _ 1 (fH 1 (fun _=> 247) (wV n)) (Go.bI.Own.new .u8 _ w1 _ 1 _ B1.out.size (by decide) rfl (fun i hi=> Qm hi (by obtain rfl:i=0:=(by omega);rfl))) rfl _ 8 (wV n) (HU.out.below ((bM _ _).alloc (bB _) _)) rfl (fun i _=> nV) (by decide) (by decide) (by have:=B1.out.size;rw [World.size_alloc];omega) ?_;intro v5 w5 hown hgr);have HO:=ak hown;have B5:Hid (Below w.heap.size w w5):=ak (below_grown (B1.out.alloc B1.out.size _) hgr (Go.bI.Own.new .u8 5 (base:=w.heap.size) w1 #[.int .u8 247] 1 (fun _=> 247) B1.out.size (by decide) rfl (fun i hi=> Qm hi rfl)) (by have:=B1.out.size;rw [World.size_alloc];omega) (bB _));go_ret2;exact ⟨_,rfl,HO.out,B5.out⟩
end
section
variable {B : Nat} {w w' : World} {p q : Nat} {F G G' : Nat -> Prop} {S S' : TS} {kd n : Int} {sd : Nat -> Int} {s : Value} {v : Value} {l : List Int}
theorem EW (h:sW B w p F S) (hb:eU F w v l) (hl:S.l.length<=1000):Calls Tryz.prog 59 #[.pointer (some ⟨p,0,none⟩),v] w fun e w'=> e=.returned (.tuple #[.int .i64 (CQ S l).1,.bool (CQ S l).2])/\Below w.heap.size w w':=by
 obtain ⟨q,G,hq,hF⟩:=h;have HW:=ak (dP hq.r);have HB:=ak hb.rd;have HL:=ak hl;obtain ⟨N,hN⟩:∃x,x=CQ S l:=⟨_,rfl⟩
 rw [<-hN];have HN:=ak hN;by_cases h9:l.length=9
 ·rw [h9] at HB;obtain ⟨av,cv,rfl,hc1,hc2,_,hc⟩:=HB.out;obtain ⟨b,o,rfl,hblt,hcell⟩:=hc (by decide);have c0:=hcell 0 (by decide);rw [Nat.add_zero] at c0;by_cases h0:bf l 0=247
  ·rw [h0] at c0;obtain ⟨a',_,hr,hrd⟩:=Rd.cut (P:=Tryz.prog) kN sV (some ⟨b,o,none⟩) 9 cv 1 9 (by decide) (bB _) hc1;have HT:Hid (Rd .u8 w (.slice a' 8 (cv - 1)) 8 (NY l)):=ak ((hrd w _ HB.out).2);have hr:∀w,(Instr.sliceAt 23 (.slice (some ⟨b,o,none⟩) 9 cv) (some (.int .i64 1)) none none).run Tryz.prog w=.ok (.slice a' 8 (cv - 1)) w:=hr;obtain ⟨C,hC⟩:∃C,C=cv - 1:=⟨_,rfl⟩
   rw [<-hC] at HT hr;have NR:=ak hr;have ahq:Hid (∀i,i<8->0<=NY l i/\NY l i<256):=ak fun i hi=> hb.ok.at _ (by omega);obtain ⟨E,hE⟩:∃x,x=mZ (NY l) 8:=⟨_,rfl⟩
   obtain ⟨X,hX⟩:∃x,x=kF (NY l) 8:=⟨_,rfl⟩
   have HG:=ak (fun w1 h=> Zq (.slice a' 8 C) 8 (NY l) w1 h ahq.out);rw [<-hE,←hX] at HG;have HST:=ak hq.st;have cp:=hq.r.cp;have HR:=ak hq.r;have hne:((247:Int) !=247)=false:=rfl;have hE0:N=if E=0/\X<S.l.length then (X,true) else (0,false):=by
    rw [hN];unfold CQ iN;by_cases hc:E=0/\X<S.l.length
    ·have h0':0<=kF (NY l) 8:=tQ fun i hi=> (ahq.out i hi).1;rw [if_pos ⟨h9,h0,hE▸hc.1,hX▸hc.2⟩,if_pos hc];simp only [hX];rw [Int.toNat_of_nonneg h0']
    ·rw [if_neg (fun h=> hc ⟨hE.trans h.2.2.1,by rw [hX];exact h.2.2.2⟩),if_neg hc]
   have zi:=ak hE0;have hr:=NR.out;clear hE0 hE hX hC hrd hc hcell hN hF hq hb hl h0
   go_enter Tryz.func59,Tryz.ntmps59
   go_wp2_with fail;refine HW.out.mono ?_;rintro e w1 ⟨rfl,rfl⟩;go_wp2_with fail;refine (HG.out _ HT.out).mono ?_;rintro e w2 ⟨rfl,b2⟩;have akG:=ak (HST.out.below b2);have cp:=(HR.out.below b2).cp;have B2:=ak b2;clear b2;by_cases e0:E=0
   ·subst e0;have hz:((0:Int) !=0)=false:=rfl;go_wp2_with fail;refine (TL akG.out).mono ?_;rintro e w3 ⟨rfl,rfl⟩;by_cases hx:X<S.l.length
    ·have hg:decide ((S.l.length:Int)<=X)=false:=decide_eq_false (by omega);have HE:Hid (N=(X,true)):=ak (by rw [zi.out,if_pos ⟨by trivial,hx⟩]);clear hx;go_wp2;go_ret2;rw [HE.out];exact ⟨rfl,B2.out⟩
    ·have hg:decide ((S.l.length:Int)<=X)=true:=decide_eq_true (by omega);have HE:Hid (N=(0,false)):=ak (by rw [zi.out,if_neg (fun h=> hx h.2)]);clear hx;go_wp2;go_ret2;rw [HE.out];exact ⟨rfl,B2.out⟩
   ·have hz:(E !=0)=true:=by simpa using e0
    have HE:Hid (N=(0,false)):=ak (by rw [zi.out,if_neg (fun h=> e0 h.1)]);clear e0;go_wp2;go_ret2;rw [HE.out];exact ⟨rfl,B2.out⟩
  ·have HE:Hid (N=(0,false)):=ak (by rw [HN.out];unfold CQ iN;rw [if_neg (fun h=> h0 h.2.1)]);have hne:((bf l 0) !=247)=true:=by simpa using h0
   clear hc hcell hN hF hq hb hl h0
   go_enter Tryz.func59,Tryz.ntmps59
   go_wp2_with fail;refine HW.out.mono ?_;rintro e w1 ⟨rfl,rfl⟩;go_wp2;go_ret2;rw [HE.out];exact ⟨rfl,bM _ _⟩
 ·have HE:Hid (N=(0,false)):=ak (by rw [HN.out];unfold CQ iN;rw [if_neg (fun h=> h9 h.1)]);obtain ⟨av,cv,rfl,hc1,hc2,_,hc⟩:=HB.out;have h9':((l.length:Int) !=9)=true:=by simp;omega
  clear hc hN hF hq hb hl h9
  go_enter Tryz.func59,Tryz.ntmps59
  go_wp2_with fail;refine HW.out.mono ?_;rintro e w1 ⟨rfl,rfl⟩;go_wp2;go_ret2;rw [HE.out];exact ⟨rfl,bM _ _⟩
theorem abh {P:Program} {o:Oper} {a:Act} {w:World} {K:Act->World->Prop} {Q:Exit->Act->World->Prop} (x:Operand) (d:Nat) (hop:o.op=.assign x) (hd:o.dst=some d) (h:K (a.put (some d) (a.eval x)) w):o.wp P a w K Q:=by
 rw [<-hd] at h;unfold Oper.wp execOp;simp only [hop];exact h
theorem yh {P:Program} {fn:Func} {p q r:Tmp} {T:TypeId} (h:fn.results=#[.tmp p,.cell q T,.tmp r]) (tmps:Array Value) (w:World) (k:IntKind) (b n:Nat) (f:Nat->Int) {d:TypeDesc}
  (hp:tmps.getD q undef=.pointer (some ⟨b,0,none⟩)) (ha:aH k w b n f) (hu:P.underlying T=some d) (hd:GX d=true) (hi:(P.info? T).map (·.size)=some n):
  (results fn tmps).run P w=.ok (.tuple #[tmps.getD p undef,.agg (arr k n f),tmps.getD r undef]) w:=by
 obtain ⟨t,ht⟩:=ha;have hp':tmps[q]?.getD undef=.pointer (some ⟨b,0,none⟩):=by simpa using hp
 simp [results,h,hp',asAddr,run_loadVar_row w b t T (arr k n f) (0,0) _ ht hu (by cases d<;> first | rfl | cases hd) (by rw [hi,iw])]
theorem zN {l:List Tm} {n:Nat} (h:n<l.length):l[n]? =some (iM l n):=by
 unfold iM;rw [Li,sU h]
 rfl
theorem VO {S:TS} {l:List Int} {n:Nat} (hb:okB l) (h:iN S l=some n):yU S (n:Int)=(iM S.l n,true):=Kg (zN (kC hb h))
theorem Tryz.size96:(Tryz.prog.info? 96).map (·.size)=some 3:=Tryz.sizeTm
theorem jJ (h:sW B w p F S) (hb:eU F w v l) (hl:S.l.length<=1000):Calls Tryz.prog 76 #[.pointer (some ⟨p,0,none⟩),v] w fun e w'=> e=.returned (.tuple #[.int .i64 (yB S l).1,LK (yB S l).2.1,.int .i64 (yB S l).2.2])/\Below w.heap.size w w':=by
 have HNU:=ak (fun w1 (b1:Below w.heap.size w w1)=> EW (h.below b1) (hb.below b1) hl);have uL:=ak hb.ok;obtain ⟨q,G,hq,hF⟩:=h;have HQ:=ak hq;obtain ⟨N,hN⟩:∃x,x=yB S l:=⟨_,rfl⟩
 rw [<-hN];have HN:=ak hN;obtain ⟨av,cv,rfl,_⟩:=hb.rd;clear hN hq hF hb hl
 go_enter Tryz.func76,Tryz.ntmps76
 go_upto_region 1 with (fail);refine aG (fun w1=> aH .i64 w1 w.heap.size 3 (fun _=> 0)/\Below w.heap.size w w1) ⟨bG rfl (by rfl),(bM _ _).alloc (bB _) _⟩ ?_;rintro w1 ⟨hA1,b1⟩;go_wp2_with fail;refine (HNU.out w1 b1).mono ?_;rintro e w2 ⟨rfl,b2⟩;replace hA1:=hA1.kept b2;replace b1:=b1.trans (b2.mono b1.size);clear b2
 cases hm:iN S l with
 | none=>
  have HE:Hid (N=(0,(0,0,0),11)):=ak (by rw [HN.out];unfold yB;rw [hm]);rw [show CQ S l=(0,false) from by unfold CQ;rw [hm]];clear hm;have HA:=ak hA1;have B1:=ak b1;clear hA1 b1;go_wp2_with (refine aF rfl 96 _ _ rfl .i64 w.heap.size 3 (fun _=> 0) (tf (0,0,0)) Tryz.sizeTm rfl rfl HA.out ?_);rw [HE.out];exact bodyPost_ret (yh rfl _ _ .i64 w.heap.size 3 _ rfl (HA.out.setRow _ _) Tryz.underlying96 rfl Tryz.sizeTm) rfl ⟨rfl,aA B1.out (bB _) _⟩
 | some n=>
  have HE:Hid (N=((n:Int),iM S.l n,0)):=ak (by rw [HN.out];unfold yB;rw [hm]);have HG:=ak (VO uL.out hm);rw [show CQ S l=((n:Int),true) from by unfold CQ;rw [hm]];clear hm;have HA:=ak hA1;have B1:=ak b1;have HST:=ak (HQ.out.st.below b1);have cp:=(HQ.out.r.below b1).cp;clear hA1 b1;go_wp2_with fail;refine (Ik HST.out n).mono ?_;rw [HG.out];rintro e w3 ⟨rfl,b3⟩;have HA:=ak (HA.out.kept b3);have B3:=ak (B1.out.trans (b3.mono B1.out.size));clear b3 cp;obtain ⟨t,ht⟩:∃t,t=iM S.l n:=⟨_,rfl⟩
  rw [<-ht] at HE ⊢;clear ht;have Hw:Hid (w.heap.size<w3.heap.size):=ak HA.out.lt;go_upto_region 5 with (refine aF rfl 96 _ _ rfl .i64 w3.heap.size 3 (fun _=> 0) (tf t) Tryz.sizeTm rfl rfl (bG rfl (by rfl)) ?_);refine aG (fun w4=> aH .i64 w4 w.heap.size 3 (fun _=> 0)/\aH .i64 w4 w3.heap.size 3 (tf t)/\Below w.heap.size w w4) ⟨(HA.out.alloc _).aC _ (Nat.ne_of_lt Hw.out) _,(show aH .i64 (w3.alloc (.cells #[.int .i64 0,.int .i64 0,.int .i64 0] 96)) w3.heap.size 3 (fun _=> 0) from bG rfl (by rfl)).setRow 3 (tf t),aA (B3.out.alloc B3.out.size _) B3.out.size _⟩ ?_;rintro w4 ⟨h4,h5,hbel⟩;have hlt:=Hw.out;obtain ⟨N3,hN3⟩:∃x,x=w3.heap.size:=⟨_,rfl⟩
  rw [<-hN3] at hlt h5 ⊢;clear hN3
  refine nX (n:=31) 4 rfl (by decide) (by kernel_rfl) (by kernel_rfl) (by kernel_rfl) (by kernel_rfl) rfl
   (fun ii vv ww=> (match ii with | 0 | 2=> vv=.int .i64 ((n:Int)) | 1=> vv=.agg (arr .i64 3 (tf t)) | _=> True)/\(ii=3->aH .i64 ww (w.heap.size) 3 (tf t))) 3
   (fun b ww=> (aH .i64 ww (N3) 3 (tf t)/\Below w.heap.size w ww)/\(b=false->aH .i64 ww ((w.heap.size)) 3 (fun _=> 0))) ⟨⟨h5.drew,hbel.drew⟩,fun _=> h4.drew⟩
   (fun i ww w'=> match i with | 3=> ((aH .i64 ww (N3) 3 (tf t)/\Below w.heap.size w ww)->(aH .i64 w' (N3) 3 (tf t)/\Below w.heap.size w w')) | _=> Below ww.heap.size ww w') ?_ ?_ ?_ ?_ rfl ?_ ?_
  ·intro i ww;(try dsimp only);split
   ·exact id
   ·exact bM _ _
  ·intro i b ww w' hi hR hE;have hE':Below ww.heap.size ww w':=by (try dsimp only at hE);split at hE;(· exact absurd rfl hi);exact hE
   obtain ⟨⟨q0,qb⟩,lN⟩:=hR;exact ⟨⟨q0.kept hE',qb.trans (hE'.mono qb.size)⟩,fun hb=> (lN hb).kept hE'⟩
  ·intro ww w' hR hE;exact ⟨hE hR.1,fun h=> by cases h⟩
  ·intro i j b v ww w' hij hjb hR hS hE;refine ⟨hS.1,fun e=> ?_⟩;subst e;have hE':Below ww.heap.size ww w':=by (try dsimp only at hE);split at hE;(· exact absurd rfl hij);exact hE
   exact (hS.2 rfl).kept hE'
  ·refine bQ ?_;refine ⟨?_,?_,?_,?_,(fun h=> absurd rfl h),trivial⟩
   ·intro _ b a w2 hcb hB0 hF hd;obtain ⟨⟨h5,hbel⟩,lN⟩:=hB0;have hB:=bM w2.heap.size w2;exact aJ <| fq rfl ⟨(hF.same 7 rfl),aK⟩
   ·intro _ b a w2 hcb hB0 hF hd;obtain ⟨⟨h5,hbel⟩,lN⟩:=hB0;have hB:=bM w2.heap.size w2;exact aJ <| aO (aB rfl Tryz.underlying96 rfl Tryz.size96 (hF.same 9 rfl) (h5.below hB h5.lt)) ⟨rfl,aK⟩
   ·intro _ b a w2 hcb hB0 hF hd;obtain ⟨⟨h5,hbel⟩,lN⟩:=hB0;have hB:=bM w2.heap.size w2;exact aJ <| pE rfl ⟨((hd 0 _ rfl (aj rfl)).1),aK⟩
   ·intro _ b a w2 hcb hB0 hF hd;obtain ⟨⟨h5,hbel⟩,lN⟩:=hB0;have hB:=bM w2.heap.size w2;refine aJ <| aW 96 _ _ rfl .i64 ((w.heap.size)) 3 (fun _=> 0) (tf t) Tryz.size96 (hF.same 5 rfl) ((hd 1 _ rfl (aj rfl)).1) (lN (hcb rfl)) ?_;exact ⟨_,rfl,fun _=> rfl,⟨trivial,fun _=> (lN (hcb rfl)).setRow _ _⟩,fun ⟨p0,p1⟩=> ⟨p0.aC _ (by omega) _,aA p1 (by omega) _⟩⟩
  ·intro b a w5 hB0 hF hS;have V3:=(hS 3 _ rfl (by decide)).2 rfl;obtain ⟨⟨h5,hbel⟩,_⟩:=hB0;obtain ⟨xl,hxl⟩:∃x,x=a.tmps.getD 6 undef:=⟨_,rfl⟩
   have ha:=aI rfl rfl hF [_,_,_,undef,xl] rfl ⟨(hS 0 _ rfl (by decide)).1,(hS 1 _ rfl (by decide)).1,(hS 2 _ rfl (by decide)).1,trivial,hxl.symm,trivial⟩;simp only [puts,Act.put,dH,dI,dJ] at ha;subst ha;clear hS hF hxl;refine abh (.const (.int .i64 (0))) 6 rfl rfl ?_;simp only [Act.put,dH,dI,dJ];have hb:=hbel;go_wp2;rw [HE.out];exact bodyPost_ret (yh rfl _ _ .i64 w.heap.size 3 _ rfl V3 Tryz.underlying96 rfl Tryz.sizeTm) rfl ⟨rfl,hb⟩
end
section
variable {B : Nat} {w w' w1 w2 w3 : World} {p q : Nat} {F G G' : Nat -> Prop} {S S' : TS} {kd n : Int} {sd : Nat -> Int} {s : Value} {v u : Value} {l : List Int}
theorem uh (h:RN B w p q G S) (hF:∀b,F b ↔ b=p\/G b) (hb:Below w.heap.size w w') (er:Int):zf B w p F (.slice none 0 0) ([],er,S) w':=
 ⟨F,⟨q,G,h.below hb,hF⟩,eU.nil _ _,.of_below hb _,fun b hb=> .inl hb⟩
theorem EX (h:RN B w p q G S) (hF:∀b,F b ↔ b=p\/G b) (hb:Below w.heap.size w w1) (h1:zh B w2 q G' S') (hc:iH G w1 w2) (hf:∀b,G' b->G b\/w1.heap.size<=b) (hw:S'.few)
  {e:TypeId} (ho:Go.bI.Own .u8 e w2.heap.size w3 u 9 (fH 1 (fun _=> 247) (wV n))) (hb3:Below w2.heap.size w2 w3) (er:Int):zf B w p F u (fI n,er,S') w3:=by
 have hQ:=(h.below hb).put h1 hc hf hw;refine ⟨fun b=> b=p\/G' b,⟨q,G',hQ.below hb3,fun _=> Iff.rfl⟩,eU.own ho (gy (n:=1) (m:=8) (fun _ _=> by decide) fun i _=> Aj n i) fun b hb=> hQ.lt hb,?_,fun b hb'=> ?_⟩
 ·exact ((iH.of_below hb F).trans (hc.mono (G:=F) fun b _ hg=> (hF b).2 (.inr hg)) fun _ _ h=> h).trans (iH.of_below hb3 F) fun _ _ h=> h
 ·rcases hb' with rfl | hb'
  ·exact .inl ((hF b).2 (.inl rfl))
  ·exact (hf b hb').imp (fun h=> (hF b).2 (.inr h)) fun h'=> jG hb.size h'
theorem yE {S:TS} {n:Nat} (h:n<S.l.length):gP S.l (n:Int) 0=true:=oN.2 ⟨n,rfl,_,sU h,.inl rfl⟩
theorem ace {S:TS} {k:Int} (hk:k=2\/k=3\/k=6\/k=7) {n:Nat} (h:n<S.l.length):lG S (k,(n:Int),0)=true:=by
 rcases hk with rfl | rfl | rfl | rfl
 ·rw [UU,yE h];rfl
 ·rw [UR,yE h];rfl
 ·rw [UM,yE h];rfl
 ·rw [UL,yE h];rfl
theorem FE {S:TS} {t:Tm} (h:lG S t=true):(lY S t).2=0/\0<=(lY S t).1/\(lY S t).1<=S.l.length:=by
 unfold lY;rw [if_pos h];refine ⟨rfl,?_⟩
 split
 ·rename_i hin
  have:=qW hin;simp only;omega
 ·simp only;omega
theorem FV {k n m:Int} (hk:0<=k/\k<=10) (hn:0<=n/\n<=1000000) (hm:0<=m/\m<=1000000):yR (k,n,m):=⟨⟨by simp only;omega,by simp only;omega⟩,⟨by simp only;omega,by simp only;omega⟩,⟨by simp only;omega,by simp only;omega⟩⟩
theorem Dy (h:sW B w p F S) (k:Int) (hk:k=2\/k=3\/k=6\/k=7) (hb:eU F w v l) (hl:S.l.length<=900):Calls Tryz.prog 91 #[.pointer (some ⟨p,0,none⟩),.int .i64 k,v] w fun e w'=> ∃u,e=.returned (.tuple #[u,.int .i64 (qX k S l).2.1])/\zf B w p F u (qX k S l) w':=by
 have HO:=ak (jJ h hb (by omega));have uL:=ak hb.ok;obtain ⟨q,G,hq,hF⟩:=h;have HQ:=ak hq;have HF:=ak hF;have HK:=ak hk;have HL:=ak hl;obtain ⟨R,hR⟩:∃x,x=qX k S l:=⟨_,rfl⟩
 rw [<-hR];have HR:=ak hR;obtain ⟨av,cv,rfl,_⟩:=hb.rd;clear hR hq hF hb hl hk
 go_enter Tryz.func91,Tryz.ntmps91
 go_wp2_with fail;refine HO.out.mono ?_;rintro e w1 ⟨rfl,b1⟩;have B1:=ak b1;clear b1;obtain ⟨A,hA⟩:∃x,x=yB S l:=⟨_,rfl⟩
 rw [<-hA];have HA:=ak hA;clear hA;go_upto_region 2 with (fail);refine aG (fun w2=> Below w.heap.size w w2) (B1.out.alloc B1.out.size _) ?_;rintro w2 b2;have B2:=ak b2;clear b2
 cases hm:iN S l with
 | none=>
  have HE:Hid (R=([],11,S)):=ak (by rw [HR.out];unfold qX;rw [hm]);obtain rfl:A=(0,(0,0,0),11):=by rw [HA.out];unfold yB;rw [hm]
  clear hm HA;go_wp2;go_ret2;rw [HE.out];exact ⟨_,rfl,uh HQ.out HF.out B2.out 11⟩
 | some m=>
  have HN:=ak (kC uL.out hm);have HE:Hid (R=(fI (lY S (k,m,0)).1,0,S.put (k,m,0))):=ak (by rw [HR.out];unfold qX;rw [hm]);obtain ⟨t,ht⟩:∃t,t=iM S.l m:=⟨_,rfl⟩
  obtain rfl:A=((m:Int),t,0):=by rw [HA.out,ht];unfold yB;rw [hm]
  clear hm HA ht;have HP:=ak (FE (ace HK.out HN.out));have NT:Hid (yR (k,(m:Int),0)):=ak (FV (by have:=HK.out;omega) (by have:=HN.out;have:=HL.out;omega) (by omega));have cp:=(HQ.out.r.below B2.out).cp;go_wp2_with fail;refine (zP (HQ.out.st.below B2.out) (HQ.out.below B2.out).hB _ NT.out (by have:=HL.out;omega)).mono ?_;rintro e w3 ⟨rfl,G3,h3,c3,f3⟩;rw [HP.out.1];obtain ⟨X,hX⟩:∃X,X=(lY S (k,(m:Int),0)).1:=⟨_,rfl⟩
  rw [<-hX] at HP HE ⊢;have HX:=ak HP.out.2;have H3:=ak h3;have C3:=ak c3;have F3:=ak f3;have HW:Hid ((S.put (k,(m:Int),0)).few):=ak (HQ.out.few.put (by have:=HK.out;simp only;omega));clear hX h3 c3 f3 cp HP;go_wp2_with fail;refine (kS X HX.out.1 (by have:=HX.out.2;have:=HL.out;omega) w3).mono ?_;rintro e w4 ⟨u,rfl,hu,b4⟩;have HD:=ak (EX HQ.out HF.out B2.out H3.out C3.out F3.out HW.out hu b4 0);clear hu b4;go_wp2;go_ret2;rw [HE.out];exact ⟨_,rfl,HD.out⟩
theorem aaF {S:TS} {n:Nat} {k:Int} (h:n<S.l.length) (hk:BU S n=k):gP S.l (n:Int) k=true:=oN.2 ⟨n,rfl,_,zN h,.inr hk⟩
theorem UJ {S:TS} {k:Int} {n m:Nat} (hk:(k=4/\BU S n=2)\/k=5) (h:n<S.l.length) (h':m<S.l.length):lG S (k,(n:Int),(m:Int))=true:=by
 rcases hk with ⟨rfl,h2⟩ | rfl
 ·rw [UQ,aaF h h2,yE h'];rfl
 ·rw [UO,yE h,yE h'];rfl
theorem Dx {v':Value} {l':List Int} (h:sW B w p F S) (k:Int) (hk:k=4\/k=5) (hb:eU F w v l) (hb':eU F w v' l') (hl:S.l.length<=900):Calls Tryz.prog 67 #[.pointer (some ⟨p,0,none⟩),.int .i64 k,v,v'] w fun e w'=> ∃u,e=.returned (.tuple #[u,.int .i64 (lX k S l l').2.1])/\zf B w p F u (lX k S l l') w':=by
 have HO:=ak (jJ h hb (by omega));have HO':=ak (fun w1 (b1:Below w.heap.size w w1)=> jJ (h.below b1) (hb'.below b1) (by omega));have uL:=ak hb.ok;have Dj:=ak hb'.ok;obtain ⟨q,G,hq,hF⟩:=h;have HQ:=ak hq;have HF:=ak hF;have HK:=ak hk;have HL:=ak hl;obtain ⟨R,hR⟩:∃x,x=lX k S l l':=⟨_,rfl⟩
 rw [<-hR];have HR:=ak hR;obtain ⟨av,cv,rfl,_⟩:=hb.rd;obtain ⟨Dc,cv',rfl,_⟩:=hb'.rd;clear hR hq hF hb hb' hl hk
 go_enter Tryz.func67,Tryz.ntmps67
 go_wp2_with fail;refine HO.out.mono ?_;rintro e w1 ⟨rfl,b1⟩;have B1:=ak b1;clear b1;obtain ⟨A,hA⟩:∃x,x=yB S l:=⟨_,rfl⟩
 rw [<-hA];have HA:=ak hA;clear hA;go_upto_region 2 with (fail);refine aG (fun w2=> w2.cell? ⟨w1.heap.size,0,none⟩=some (.int .i64 A.2.1.1)/\Below w.heap.size w w2) ⟨cell_of_row _ _ 0 _ _ (0,0) (heap_alloc_new w1 _),B1.out.alloc B1.out.size _⟩ ?_;rintro w2 ⟨c0,b2⟩;have B2:=ak b2;clear b2
 cases hm:iN S l with
 | none=>
  have HE:Hid (R=([],11,S)):=ak (by rw [HR.out];unfold lX;rw [hm]);obtain rfl:A=(0,(0,0,0),11):=by rw [HA.out];unfold yB;rw [hm]
  clear hm HA;go_wp2;go_ret2;rw [HE.out];exact ⟨_,rfl,uh HQ.out HF.out B2.out 11⟩
 | some n=>
  have HN:=ak (kC uL.out hm);have HM:=ak hm;obtain ⟨t,ht⟩:∃t,t=iM S.l n:=⟨_,rfl⟩
  obtain rfl:A=((n:Int),t,0):=by rw [HA.out,ht];unfold yB;rw [hm]
  have HT:=ak ht;have HKD:Hid (BU S n=t.1):=ak (by rw [ht];rfl);clear hm HA ht;by_cases hbad:k=4/\t.1≠2
  ·obtain ⟨rfl,h2⟩:=hbad;have HE:Hid (R=([],11,S)):=ak (by
    rw [HR.out];unfold lX;rw [HM.out]
    cases iN S l' with
    | none=> rfl
    | some m=> exact if_pos ⟨rfl,by rw [HKD.out];exact h2⟩)
   have h2':(t.1 !=2)=true:=by simpa using h2
   clear h2;go_wp2;go_ret2;rw [HE.out];exact ⟨_,rfl,uh HQ.out HF.out B2.out 11⟩
  ·have hc:(k=4/\(t.1 !=2)=false)\/(k=5/\((5:Int)==4)=false):=by
    rcases HK.out with rfl | rfl
    ·exact .inl ⟨rfl,by by_cases e:t.1=2;(· simpa using e);exact absurd ⟨rfl,e⟩ hbad⟩
    ·exact .inr ⟨rfl,rfl⟩
   have HKK:Hid ((k=4/\BU S n=2)\/k=5):=ak (hc.imp (fun h=> ⟨h.1,by rw [HKD.out];simpa using h.2⟩) fun h=> h.1);have aec:Hid (∀m:Nat,m<S.l.length->lG S (k,(n:Int),(m:Int))=true):=ak fun m hm=> UJ HKK.out HN.out hm;have akJ:Hid (∀m:Nat,iN S l'=some m->R=(fI (lY S (k,n,m)).1,0,S.put (k,n,m))):=ak fun m hm=> by
    rw [HR.out];unfold lX;rw [HM.out,hm];exact if_neg (by rw [HKD.out];exact hbad)
   have NT:Hid (∀m:Nat,m<S.l.length->yR (k,(n:Int),(m:Int))):=ak fun m hm=> FV (by have:=HK.out;omega) (by have:=HN.out;have:=HL.out;omega) (by have:=HL.out;omega);have HK1:Hid (k≠1):=ak (by have:=HK.out;omega);have HNO:Hid (iN S l'=none->R=([],11,S)):=ak fun hm=> by rw [HR.out];unfold lX;rw [HM.out,hm]
   clear hbad HKK HK HR HKD;rcases hc with ⟨rfl,h2⟩ | ⟨rfl,h2⟩
   all_goals
    go_wp2_with fail;refine (HO'.out w2 B2.out).mono ?_;rintro e w3 ⟨rfl,b3⟩;have B3:=ak (B2.out.trans (b3.mono B2.out.size));clear b3 c0 h2;obtain ⟨A,hA⟩:∃x,x=yB S l':=⟨_,rfl⟩
    rw [<-hA];have HA:=ak hA;clear hA;go_upto_region 5 with (fail);refine aG (fun w4=> Below w.heap.size w w4) (B3.out.alloc B3.out.size _) ?_;rintro w4 b4;have B4:=ak b4;clear b4
    cases hm:iN S l' with
    | none=>
     have HE:Hid (R=([],11,S)):=ak (HNO.out hm);obtain rfl:A=(0,(0,0,0),11):=by rw [HA.out];unfold yB;rw [hm]
     clear hm HA;go_wp2;go_ret2;rw [HE.out];exact ⟨_,rfl,uh HQ.out HF.out B4.out 11⟩
    | some m=>
     have HE:=ak (akJ.out m hm);have ZX:=ak (kC Dj.out hm);have NT:=ak (NT.out m ZX.out);have HP:=ak (FE (aec.out m ZX.out));obtain ⟨t',ht'⟩:∃t,t=iM S.l m:=⟨_,rfl⟩
     obtain rfl:A=((m:Int),t',0):=by rw [HA.out,ht'];unfold yB;rw [hm]
     clear hm HA ht';have cp:=(HQ.out.r.below B4.out).cp;go_wp2_with fail;refine (zP (HQ.out.st.below B4.out) (HQ.out.below B4.out).hB _ NT.out (by have:=HL.out;omega)).mono ?_;rintro e w5 ⟨rfl,G3,h3,c3,f3⟩;rw [HP.out.1];have HW:=ak (HQ.out.few.put (t:=(_,(n:Int),(m:Int))) HK1.out);have HX:=ak HP.out.2;have H3:=ak h3;have C3:=ak c3;have F3:=ak f3;clear HP h3 c3 f3 cp
     generalize lY S (_,(n:Int),(m:Int))=PA at HX HE ⊢
     obtain ⟨X,er⟩:=PA;simp only at HX HE ⊢;go_wp2_with fail;refine (kS X HX.out.1 (by have:=HX.out.2;have:=HL.out;omega) w5).mono ?_;rintro e w6 ⟨u,rfl,hu,b4⟩;have HD:=ak (EX HQ.out HF.out B4.out H3.out C3.out F3.out HW.out hu b4 0);clear hu b4;go_wp2;go_ret2;rw [HE.out];exact ⟨_,rfl,HD.out⟩
end
section
variable {B : Nat} {w w' w1 w2 w3 : World} {p q : Nat} {F G G' : Nat -> Prop} {S S' : TS} {kd n : Int} {sd : Nat -> Int} {s : Value} {v u v' : Value} {l l' : List Int}
theorem Dz (h:sW B w p F S) (s:Int) (hl:S.l.length<=900):Calls Tryz.prog 26 #[.pointer (some ⟨p,0,none⟩),.int .i64 s] w fun e w'=> ∃u,e=.returned (.tuple #[u,.int .i64 (vY S s).2.1])/\zf B w p F u (vY S s) w':=by
 obtain ⟨q,G,hq,hF⟩:=h;have HQ:=ak hq;have HF:=ak hF;have HL:=ak hl;have HW:=ak (dP hq.r);obtain ⟨R,hR⟩:∃x,x=vY S s:=⟨_,rfl⟩
 rw [<-hR];have HR:=ak hR;have ck:=hq.r.ck;have cp:=hq.r.cp;clear hR hq hF hl;by_cases hs:1<=s/\s<=4
 ·have HS:Hid (isSort s=true):=ak (by unfold isSort;rw [decide_eq_true hs.1,decide_eq_true hs.2];rfl);have HN:Hid (wI S.l s<=nD):=ak (by have:=HQ.out.few s;have:=HL.out;unfold nD;omega);have HE:Hid (R=(fI S.l.length,0,S.draw s)):=ak (by rw [HR.out];unfold vY;rw [if_pos HS.out]);have HA:Hid (yH S s=((S.l.length:Int),0)):=ak (by unfold yH;rw [if_pos HS.out,if_pos HN.out]);have h1:decide (s<1)=false:=decide_eq_false (by omega);have h2:decide (4<s)=false:=decide_eq_false (by omega);clear hs
  go_enter Tryz.func26,Tryz.ntmps26
  go_wp2_with fail;refine HW.out.mono ?_;rintro e w1 ⟨rfl,rfl⟩;go_wp2_with fail;refine (Pn HQ.out.st HQ.out.hB s (by have:=HL.out;omega)).mono ?_;rw [HA.out];rintro e w2 ⟨rfl,G3,h3,c3,f3⟩;have H3:=ak h3;have C3:=ak c3;have F3:=ak f3;clear h3 c3 f3 ck cp;go_wp2_with fail;refine (kS (S.l.length:Int) (by omega) (by have:=HL.out;omega) w2).mono ?_;rintro e w4 ⟨u,rfl,hu,b4⟩;have HD:=ak (EX HQ.out HF.out (bM _ _) H3.out C3.out F3.out (HQ.out.few.draw s) hu b4 0);clear hu b4;go_wp2;go_ret2;rw [HE.out];exact ⟨_,rfl,HD.out⟩
 ·have HE:Hid (R=([],2,S)):=ak (by
   rw [HR.out];unfold vY;rw [if_neg];intro h;simp only [isSort,GZ,decide_eq_true_eq] at h;exact hs h)
  by_cases h1:s<1
  ·have h1':decide (s<1)=true:=decide_eq_true h1;clear hs h1 cp
   go_enter Tryz.func26,Tryz.ntmps26
   go_wp2_with fail;refine HW.out.mono ?_;rintro e w1 ⟨rfl,rfl⟩;go_wp2;go_ret2;rw [HE.out];exact ⟨_,rfl,uh HQ.out HF.out (bM _ _) 2⟩
  ·have h1':decide (s<1)=false:=decide_eq_false h1;have h2':decide (4<s)=true:=decide_eq_true (by omega);clear hs h1 cp
   go_enter Tryz.func26,Tryz.ntmps26
   go_wp2_with fail;refine HW.out.mono ?_;rintro e w1 ⟨rfl,rfl⟩;go_wp2;go_ret2;rw [HE.out];exact ⟨_,rfl,uh HQ.out HF.out (bM _ _) 2⟩
theorem IC (h:sW B w p F S) (hb:eU F w v l) (hl:S.l.length<=900):Calls Tryz.prog 33 #[.pointer (some ⟨p,0,none⟩),v] w fun e w'=> ∃u,e=.returned (.tuple #[u,.int .i64 (qX 2 S l).2.1])/\zf B w p F u (qX 2 S l) w':=by
 have HC:=ak (Dy h 2 (by decide) hb hl);have HW:Hid (Calls Tryz.prog 63 #[.pointer (some ⟨p,0,none⟩)] w fun e w'=> e=.returned (.int .i64 2)/\w'=w):=ak (by obtain ⟨q,G,hq,_⟩:=h;exact dP hq.r);obtain ⟨R,hR⟩:∃x,x=qX 2 S l:=⟨_,rfl⟩
 rw [<-hR] at HC ⊢;obtain ⟨av,cv,rfl,_⟩:=hb.rd;clear hR h hb hl
 go_enter Tryz.func33,Tryz.ntmps33
 go_wp2_with fail;refine HW.out.mono ?_;rintro e w1 ⟨rfl,rfl⟩;go_wp2_with fail;refine HC.out.mono ?_;rintro e w2 ⟨u,rfl,hR⟩;have HR:=ak hR;clear hR;go_wp2;go_ret2;exact ⟨u,rfl,HR.out⟩
theorem Cq (h:sW B w p F S) (hb:eU F w v l) (hl:S.l.length<=900):Calls Tryz.prog 34 #[.pointer (some ⟨p,0,none⟩),v] w fun e w'=> ∃u,e=.returned (.tuple #[u,.int .i64 (qX 3 S l).2.1])/\zf B w p F u (qX 3 S l) w':=by
 have HC:=ak (Dy h 3 (by decide) hb hl);have HW:Hid (Calls Tryz.prog 63 #[.pointer (some ⟨p,0,none⟩)] w fun e w'=> e=.returned (.int .i64 2)/\w'=w):=ak (by obtain ⟨q,G,hq,_⟩:=h;exact dP hq.r);obtain ⟨R,hR⟩:∃x,x=qX 3 S l:=⟨_,rfl⟩
 rw [<-hR] at HC ⊢;obtain ⟨av,cv,rfl,_⟩:=hb.rd;clear hR h hb hl
 go_enter Tryz.func34,Tryz.ntmps34
 go_wp2_with fail;refine HW.out.mono ?_;rintro e w1 ⟨rfl,rfl⟩;go_wp2_with fail;refine HC.out.mono ?_;rintro e w2 ⟨u,rfl,hR⟩;have HR:=ak hR;clear hR;go_wp2;go_ret2;exact ⟨u,rfl,HR.out⟩
theorem Pv (h:sW B w p F S) (hb:eU F w v l) (hb':eU F w v' l') (hl:S.l.length<=900):Calls Tryz.prog 13 #[.pointer (some ⟨p,0,none⟩),v,v'] w fun e w'=> ∃u,e=.returned (.tuple #[u,.int .i64 (lX 4 S l l').2.1])/\zf B w p F u (lX 4 S l l') w':=by
 have HC:=ak (Dx h 4 (by decide) hb hb' hl);have HW:Hid (Calls Tryz.prog 63 #[.pointer (some ⟨p,0,none⟩)] w fun e w'=> e=.returned (.int .i64 2)/\w'=w):=ak (by obtain ⟨q,G,hq,_⟩:=h;exact dP hq.r);obtain ⟨R,hR⟩:∃x,x=lX 4 S l l':=⟨_,rfl⟩
 rw [<-hR] at HC ⊢;obtain ⟨av,cv,rfl,_⟩:=hb.rd;obtain ⟨Dc,cv',rfl,_⟩:=hb'.rd;clear hR h hb hb' hl
 go_enter Tryz.func13,Tryz.ntmps13
 go_wp2_with fail;refine HW.out.mono ?_;rintro e w1 ⟨rfl,rfl⟩;go_wp2_with fail;refine HC.out.mono ?_;rintro e w2 ⟨u,rfl,hR⟩;have HR:=ak hR;clear hR;go_wp2;go_ret2;exact ⟨u,rfl,HR.out⟩
theorem Pz (h:sW B w p F S) (hb:eU F w v l) (hb':eU F w v' l') (hl:S.l.length<=900):Calls Tryz.prog 16 #[.pointer (some ⟨p,0,none⟩),v,v'] w fun e w'=> ∃u,e=.returned (.tuple #[u,.int .i64 (lX 5 S l l').2.1])/\zf B w p F u (lX 5 S l l') w':=by
 have HC:=ak (Dx h 5 (by decide) hb hb' hl);have HW:Hid (Calls Tryz.prog 63 #[.pointer (some ⟨p,0,none⟩)] w fun e w'=> e=.returned (.int .i64 2)/\w'=w):=ak (by obtain ⟨q,G,hq,_⟩:=h;exact dP hq.r);obtain ⟨R,hR⟩:∃x,x=lX 5 S l l':=⟨_,rfl⟩
 rw [<-hR] at HC ⊢;obtain ⟨av,cv,rfl,_⟩:=hb.rd;obtain ⟨Dc,cv',rfl,_⟩:=hb'.rd;clear hR h hb hb' hl
 go_enter Tryz.func16,Tryz.ntmps16
 go_wp2_with fail;refine HW.out.mono ?_;rintro e w1 ⟨rfl,rfl⟩;go_wp2_with fail;refine HC.out.mono ?_;rintro e w2 ⟨u,rfl,hR⟩;have HR:=ak hR;clear hR;go_wp2;go_ret2;exact ⟨u,rfl,HR.out⟩
end
section
variable {B : Nat} {w w' w1 w2 w3 : World} {p q : Nat} {F G G' : Nat -> Prop} {S S' : TS} {kd n : Int} {sd : Nat -> Int} {s : Value} {v u v' : Value} {l l' : List Int}
theorem sW.which (h:sW B w p F S):Calls Tryz.prog 63 #[.pointer (some ⟨p,0,none⟩)] w fun e w'=> e=.returned (.int .i64 2)/\w'=w:=by obtain ⟨q,G,hq,_⟩:=h;exact dP hq.r
theorem Ov (h:S.Ok) {m:Nat} (hm:m<S.l.length) (hk:BU S m=4\/BU S m=5\/BU S m=8):∃b:Nat,(iM S.l m).2.2=b/\b<m:=by
 have:=h.ok m _ (zN hm);unfold BU at hk;rcases this with h | h | ⟨_,_,b,h1,h2⟩ | ⟨_,_,b,h1,h2⟩ | ⟨_,_,b,h1,h2,_⟩ | h | h
 ·omega
 ·omega
 ·exact ⟨b,h1,h2⟩
 ·exact ⟨b,h1,h2⟩
 ·exact ⟨b,h1,h2⟩
 ·omega
 ·omega
theorem mX (h:iN S l=none):yB S l=(0,(0,0,0),11):=by unfold yB;rw [h]
theorem mW {n:Nat} (h:iN S l=some n):yB S l=((n:Int),iM S.l n,0):=by unfold yB;rw [h]
theorem Iy (h:sW B w p F S) (hb:eU F w v l) (hb':eU F w v' l') (hl:S.l.length<=1000):Calls Tryz.prog 23 #[.pointer (some ⟨p,0,none⟩),v,v'] w fun e w'=> ∃u,e=.returned (.tuple #[u,.int .i64 (lW S l l').2])/\eU F w' u (lW S l l').1/\Below w.heap.size w w':=by
 have HW:=ak h.which;have HO:=ak (jJ h hb (by omega));have HO':=ak (fun w1 (b1:Below w.heap.size w w1)=> jJ (h.below b1) (hb'.below b1) (by omega));have uL:=ak hb.ok;have Dj:=ak hb'.ok;have HSO:=ak h.ok;have Hw:Hid (∀b,F b->b<w.heap.size):=ak fun b hb=> h.lt hb;have HL:=ak hl;obtain ⟨R,hR⟩:∃x,x=lW S l l':=⟨_,rfl⟩
 rw [<-hR];have HR:=ak hR;obtain ⟨av,cv,rfl,_⟩:=hb.rd;obtain ⟨Dc,cv',rfl,_⟩:=hb'.rd;clear hR h hb hb' hl
 go_enter Tryz.func23,Tryz.ntmps23
 go_wp2_with fail;refine HW.out.mono ?_;rintro e w0 ⟨rfl,rfl⟩;go_wp2_with fail;refine HO.out.mono ?_;rintro e w1 ⟨rfl,b1⟩;have B1:=ak b1;clear b1;obtain ⟨A,hA⟩:∃x,x=yB S l:=⟨_,rfl⟩
 rw [<-hA];have HA:=ak hA;clear hA;go_upto_region 11 with (fail);refine aG (fun w2=> Below w0.heap.size w0 w2) (B1.out.alloc B1.out.size _) ?_;rintro w2 b2;have B2:=ak b2;clear b2;go_wp2_with fail;refine (HO'.out w2 B2.out).mono ?_;rintro e w3 ⟨rfl,b3⟩;have B3:=ak (B2.out.trans (b3.mono B2.out.size));clear b3;obtain ⟨C,hC⟩:∃x,x=yB S l':=⟨_,rfl⟩
 rw [<-hC];have HC:=ak hC;clear hC;go_upto_region 12 with (fail);refine aG (fun w4=> w4.cell? ⟨w3.heap.size,0,none⟩=some (.int .i64 C.2.1.1)/\w4.cell? ⟨w3.heap.size,1,none⟩=some (.int .i64 C.2.1.2.1)/\w4.cell? ⟨w3.heap.size,2,none⟩=some (.int .i64 C.2.1.2.2)/\Below w0.heap.size w0 w4) ⟨cell_of_row _ _ 0 _ _ (0,0) (heap_alloc_new w3 _),cell_of_row _ _ 1 _ _ (0,0) (heap_alloc_new w3 _),cell_of_row _ _ 2 _ _ (0,0) (heap_alloc_new w3 _),B3.out.alloc B3.out.size _⟩ ?_;rintro w4 ⟨c0,c1,c2,b4⟩;have B4:=ak b4;clear b4
 cases hm:iN S l with
 | none=>
  have HE:Hid (R=([],11)):=ak (by rw [HR.out];unfold lW;rw [hm]);obtain rfl:A=(0,(0,0,0),11):=HA.out.trans (mX hm);clear hm HA c0 c1 c2;go_wp2;go_ret2;rw [HE.out];exact ⟨_,rfl,eU.nil _ _,B4.out⟩
 | some n=>
  have HM:=ak hm;have HN:=ak (kC uL.out hm);obtain ⟨t,ht⟩:∃t,t=iM S.l n:=⟨_,rfl⟩
  obtain rfl:A=((n:Int),t,0):=HA.out.trans (ht▸mW hm);clear hm HA ht
  cases hm:iN S l' with
  | none=>
   have HE:Hid (R=([],11)):=ak (by rw [HR.out];unfold lW;rw [HM.out,hm]);obtain rfl:C=(0,(0,0,0),11):=HC.out.trans (mX hm);clear hm HC c0 c1 c2;go_wp2;go_ret2;rw [HE.out];exact ⟨_,rfl,eU.nil _ _,B4.out⟩
  | some m=>
   have ZX:=ak (kC Dj.out hm);have zi:Hid (R=if BU S m=5/\(iM S.l m).2.1=n then (fI (iM S.l m).2.2,0) else ([],20)):=ak (by rw [HR.out];unfold lW;rw [HM.out,hm]);have HB:=ak (fun hk=> Ov HSO.out ZX.out hk);obtain rfl:C=((m:Int),iM S.l m,0):=HC.out.trans (mW hm);have hkd:BU S m=(iM S.l m).1:=rfl;rw [hkd] at zi HB;obtain ⟨u,hu⟩:∃t,t=iM S.l m:=⟨_,rfl⟩
   rw [<-hu] at zi HB c0 c1 c2 ⊢;clear hm HC hkd hu;by_cases hk:u.1=5
   ·have hk':(u.1 !=5)=false:=by simpa using hk
    by_cases hn:u.2.1=n
    ·have hn':(u.2.1 !=(n:Int))=false:=by simpa using hn
     obtain ⟨b,hb1,hb2⟩:=HB.out (.inr (.inl hk));have HBL:=ak hb2;have HE:Hid (R=(fI (b:Int),0)):=ak (by rw [zi.out,if_pos ⟨hk,hn⟩,hb1]);rw [hb1] at c2;clear hk hn hb1 hb2;go_wp2_with fail;refine (kS (b:Int) (by omega) (by have:=HBL.out;have:=ZX.out;have:=HL.out;omega) w4).mono ?_;rintro e w6 ⟨x,rfl,hx,b6⟩;have HX:=ak (eU.own hx (gy (n:=1) (m:=8) (fun _ _=> by decide) fun i _=> Aj _ i) fun b hb=> uK (Hw.out b hb) B4.out.size);have B6:=ak (B4.out.trans (b6.mono B4.out.size));clear hx b6;go_wp2;go_ret2;rw [HE.out];exact ⟨_,rfl,HX.out,B6.out⟩
    ·have hn':(u.2.1 !=(n:Int))=true:=by simpa using hn
     have HE:Hid (R=([],20)):=ak (by rw [zi.out,if_neg (fun h=> hn h.2)]);clear hk hn;go_wp2;go_ret2;rw [HE.out];exact ⟨_,rfl,eU.nil _ _,B4.out⟩
   ·have hk':(u.1 !=5)=true:=by simpa using hk
    have HE:Hid (R=([],20)):=ak (by rw [zi.out,if_neg (fun h=> hk h.1)]);clear hk;go_wp2;go_ret2;rw [HE.out];exact ⟨_,rfl,eU.nil _ _,B4.out⟩
end
end Go.Proofs.YtpcjekgfnfjbpaaGreat
