/-
  Part 53 of SuiteHides. Conditions: named in each theorem.
-/
import Derived.Test.YtpcjekgfnfjbpaaGreatPkSuiteHides52
import Derived.Test.YtpcjekgfnfjbpaaGreatPkSuiteHides31
set_option linter.unusedVariables false
set_option linter.unusedSimpArgs false
set_option maxRecDepth 100000
set_option maxHeartbeats 3200000
namespace Go.Proofs.YtpcjekgfnfjbpaaGreat
open Go.RowKit Go.aQ Go.ChangeShapes Go.Maps
attribute [local go_sem ↓] Go.wp_at_zero Go.wp_at_succ
theorem _root_.Go.aQ.jH.setRow (F:Nat->Prop) (w:World) (g:Nat) (cs:Array Value) (hF:F g):jH F w (w.setRow g cs):=
 have h:=ay (bA 0 w) (dR g) cs
 ⟨h.os,h.tape,h.output,h.size,fun b _ hn=> setRow_other w g b cs fun e=> hn (e▸hF)⟩
def Aj:ByteArray:=⟨#[100,114,97,119]⟩
def jg (sd:Nat->Int) (n:Nat):Nat->Int:=uh 32 sd (oM Aj.size (fun _=> 8) 1) (sF Aj.size (pz Aj) (fun _=> 8) (fun _=> rZ n) 1)
theorem vw (sd:Nat->Int) (n i:Nat):0<=jg sd n i/\jg sd n i<256:=yQ _ _ _ _ i
theorem Va (v:Value) (sd:Nat->Int) (n:Nat) (hf:∀i,i<32->0<=sd i/\sd i<256) (vc:Value) (w:World) (h:Rd .u8 w v 32 sd) (hc:qm w vc 1 (fun _=> 8) (fun _=> rZ n)):
  Calls Tryz.prog 120 #[v,.string Aj,vc] w fun e w'=> e=.returned (.tuple #[.agg (arr .u8 32 (jg sd n)),.int .i64 0])/\Below w.heap.size w w':=
 Jj v 32 sd Aj vc 1 (fun _=> 8) (fun _=> rZ n) w h (by decide) (by decide) hf (by decide) hc (by decide) (fun j hj=> by decide) (fun j hj i hi=> vV _ _)
section
variable {B : Nat} {w w' w1 w2 w3 : World} {p q : Nat} {F G G' : Nat -> Prop} {sd : Nat -> Int} {n : Nat} {v u : Value} {l : List Int}
structure AV (B:Nat) (w:World) (p:Nat) (sd:Nat->Int) (n:Nat):Prop where
 r:kF w p 1 sd n (.pointer none)
 sdb:∀i,i<32->0<=sd i/\sd i<256
 hp:B<=p
theorem AV.below (h:AV B w p sd n) (hb:Below w.heap.size w w'):AV B w' p sd n:=⟨h.r.below hb,h.sdb,h.hp⟩
theorem AV.lt (h:AV B w p sd n):p<w.heap.size:=h.r.row.lt
theorem AV.keep {H:Nat->Prop} (h:AV B w p sd n) (hc:jH H w w') (hF:¬ H p):AV B w' p sd n:=⟨h.r.keep hc hF,h.sdb,h.hp⟩
theorem kF.next {kd m m':Int} {s:Value} (h:kF w p kd sd m s):kF (w.setCell ⟨p,33,none⟩ (.int .i64 m')) p kd sd m' s:=by
 refine ⟨h.row.setCell _ rfl _,?_,fun i hi=> ?_,?_,?_⟩
 ·rw [World.cell?_setCell_other _ _ _ _ (by intro e;cases e)];exact h.ck
 ·rw [World.cell?_setCell_other _ _ _ _ (by intro e;have:=congrArg Addr.off e;simp only at this;omega)];exact h.cs i hi
 ·exact World.cell?_setCell_same _ _ _ h.cn
 ·rw [World.cell?_setCell_other _ _ _ _ (by intro e;cases e)];exact h.cp
theorem AV.next (h:AV B w p sd n) {m:Nat}:AV B (w.setCell ⟨p,33,none⟩ (.int .i64 (m:Int))) p sd m:=⟨h.r.next,h.sdb,h.hp⟩
theorem AV.aes (h:AV B w p sd n) (m:Int):wV p (fun _=> False) w (w.setCell ⟨p,33,none⟩ (.int .i64 m)):=
 ⟨.set _ _ _ _ (.inl rfl),fun b hb _ i x hx=> by
  rw [World.cell?_setCell_other _ _ _ _ (by intro e;cases e;rw [h.r.cn] at hx;cases hx)];exact hx⟩
theorem rD {f:Nat->Int} (h:Rd .u8 w v 32 f):Calls Tryz.prog 64 #[v] w fun e w'=> e=.returned (.tuple #[.agg (arr .u8 32 f),.int .i64 0])/\Below w.heap.size w w':=by
 obtain ⟨a,c,rfl,h1,h2,_,h4⟩:=h;obtain ⟨b,o,rfl,hlt,hc⟩:=h4 (by decide);have HC:=ak hc;have ZU:=ak hlt;clear h4 hc hlt
 go_enter Tryz.func64,Tryz.ntmps64
 go_upto_region 1 with (fail);refine aC (fun w1=> aD .u8 w1 w.heap.size 32 (fun _=> 0)/\Below w.heap.size w w1) ⟨bg rfl (by rfl),(bA _ _).alloc (aP _) _⟩ ?_;rintro w1 ⟨hZ,hbel⟩;have sW:Hid (∀i,i<32->w1.cell? ⟨b,o+i,none⟩=some (.int .u8 (f i))):=ak fun i hi=> (hbel.cell (p:=⟨b,o+i,none⟩) ZU.out).trans (HC.out i hi);have HZ:=ak hZ;have HB:=ak hbel;have ha:∀w,(Instr.arrayAt 22 (.slice (some ⟨b,o,none⟩) 32 c)).run Tryz.prog w=.ok (.pointer (some ⟨b,o,none⟩)) w:=fun w=> jY (P:=Tryz.prog) (T:=22) (a:=some ⟨b,o,none⟩) (len:=32) (cap:=c) (n:=32) dB (by decide) w;clear hZ hbel
 go_wp2_with (first
  | (refine rM rfl 22 _ rfl .u8 b o 32 f 5 dB bZ rfl (fun i hi=> sW.out i hi) ?_)
  | (refine aH rfl 22 _ _ rfl .u8 w.heap.size 32 (fun _=> 0) f bZ rfl rfl HZ.out ?_))
 exact bodyPost_ret (dM rfl _ _ .u8 w.heap.size 32 _ 5 rfl (HZ.out.setRow _ _) dB bZ) rfl ⟨rfl,ay HB.out (aP _) _⟩
theorem uq {m:Nat} {f:Nat->Int} (h:Rd .u8 w v m f) (hm:m≠32):Calls Tryz.prog 64 #[v] w fun e w'=> e=.returned (.tuple #[.agg (arr .u8 32 (fun _=> 0)),.int .i64 11])/\Below w.heap.size w w':=by
 obtain ⟨a,c,rfl,h1,h2,_,h4⟩:=h;have hm':((m:Int) !=32)=true:=by simp;omega
 clear h4 hm
 go_enter Tryz.func64,Tryz.ntmps64
 go_upto_region 1 with (fail);refine aC (fun w1=> aD .u8 w1 w.heap.size 32 (fun _=> 0)/\Below w.heap.size w w1) ⟨bg rfl (by rfl),(bA _ _).alloc (aP _) _⟩ ?_;rintro w1 ⟨hZ,hbel⟩;have HZ:=ak hZ;have HB:=ak hbel;clear hZ hbel;go_wp2_with (refine aH rfl 22 _ _ rfl .u8 w.heap.size 32 (fun _=> 0) (fun _=> 0) bZ rfl (by rfl) HZ.out ?_);exact bodyPost_ret (dM rfl _ _ .u8 w.heap.size 32 _ 5 rfl (HZ.out.setRow _ _) dB bZ) rfl ⟨rfl,ay HB.out (aP _) _⟩
theorem qF (h:AV B w p sd n) (hn:n<=100000):Calls Tryz.prog 66 #[.pointer (some ⟨p,0,none⟩)] w fun e w'=> e=.returned (.agg (arr .u8 32 (jg sd n)))/\AV B w' p sd (n+1)/\wV p (fun _=> False) w w':=by
 have H:=ak h;have HN:=ak hn;have cn:=h.r.cn;have HPN:Hid (p<w.heap.size):=ak h.r.row.lt;clear h hn
 go_enter Tryz.func66,Tryz.ntmps66
 clear cn;go_upto_region 1 with (fail);refine aC (fun w1=> aD .u8 w1 w.heap.size 32 (fun _=> 0)/\Below w.heap.size w w1) ⟨bg rfl (by rfl),(bA _ _).alloc (aP _) _⟩ ?_;rintro w1 ⟨hZ,hbel⟩;have H1:=ak (H.out.below hbel);have cn:=H1.out.r.cn;have HZ:=ak hZ;have HB:=ak hbel;clear hZ hbel;go_wp2_with fail;refine (La (n:Int) 8 w1 (by decide) (by decide) (by omega) (by have:=HN.out;omega) (aF)).mono ?_;rintro e w2 ⟨u,rfl,hu,b2⟩;have HU:=ak hu.rd;obtain ⟨au,cu,rfl,_⟩:=hu.rd;have H2:=ak (H1.out.below b2);have HZ2:=ak (HZ.out.kept b2);have HB2:=ak (HB.out.trans (b2.mono HB.out.size));clear hu b2 cn;go_wp2_with fail;have BA:=(bA w2.heap.size w2).alloc (aP _) (.cells [Value.slice au 8 cu].toArray 23);refine (Va _ sd n H2.out.sdb _ _ (H2.out.r.below BA).rd (new1 HU.out (bA _ _))).mono ?_;rintro e w3 ⟨rfl,b3⟩;have B3:=ak (BA.trans (b3.mono (by rw [World.size_alloc];omega)));have H3:=ak (H2.out.below B3.out);have HZ3:=ak (HZ2.out.kept B3.out);have HB3:=ak (HB2.out.trans (B3.out.mono HB2.out.size));clear b3 BA;obtain ⟨D,hD⟩:∃D,D=jg sd n:=⟨_,rfl⟩
 rw [<-hD];have HDD:=ak hD;clear hD;go_upto_region 3 with (refine aH rfl 22 _ _ rfl .u8 w3.heap.size 32 (fun _=> 0) D bZ rfl rfl (bg rfl (by rfl)) ?_);refine aC (fun w4=> aD .u8 w4 w.heap.size 32 (fun _=> 0)/\aD .u8 w4 w3.heap.size 32 D/\Below w3.heap.size w3 w4) ⟨(HZ3.out.alloc _).aA _ (Nat.ne_of_lt HZ3.out.lt) _,(show aD .u8 (w3.alloc (.cells (arr .u8 32 (fun _=> 0)) 22)) w3.heap.size 32 (fun _=> 0) from bg rfl rfl).setRow 32 D,ay ((bA _ _).alloc (aP _) _) (aP _) _⟩ ?_;rintro w4 ⟨h4,h5,hbel⟩;have H4:=ak (H3.out.below hbel);have WO:=ak (HB3.out.trans (hbel.mono HB3.out.size));have HZ4:=ak h4;have HD4:=ak h5;have HPL:Hid (p<w.heap.size/\w.heap.size<w3.heap.size):=ak ⟨HPN.out,HZ3.out.lt⟩;clear h4 h5 hbel;have cn:=H4.out.r.cn;have fr:=H4.out.r.row.free 33;have hnb:(n:Int)<1000000:=by have:=HN.out;omega
 go_upto_region 4 with (fail);have CS:=H4.out.aes ((n:Int)+1);refine aC (fun w5=> AV B w5 p sd (n+1)/\aD .u8 w5 w.heap.size 32 (fun _=> 0)/\aD .u8 w5 w3.heap.size 32 D/\wV p (fun _=> False) w w5) ⟨H4.out.next (m:=n+1),HZ4.out.wN CS.wN (fun e=> e.elim (fun e=> by have:=HPL.out;omega) id),HD4.out.wN CS.wN (fun e=> e.elim (fun e=> by have:=HPL.out;omega) id),(wV.of_below WO.out _).trans CS fun _ h=> h.elim⟩ ?_;rintro w5 ⟨h5,hz5,hd5,c5⟩;have H5:=ak h5;have HZ5:=ak hz5;have HD5:=ak hd5;have C5:=ak c5;clear h5 hz5 hd5 c5 CS cn fr hnb
 go_wp2_with (first
  | (refine aM rfl 22 _ rfl .u8 w3.heap.size 32 D 5 dB bZ rfl HD5.out ?_)
  | (refine aH rfl 22 _ _ rfl .u8 w.heap.size 32 (fun _=> 0) D bZ rfl rfl HZ5.out ?_))
 obtain rfl:=HDD.out;have CR:=jH.setRow (fun b=> b=w.heap.size) w5 w.heap.size (arr .u8 32 (jg sd n)) rfl;exact bodyPost_ret (aV rfl _ _ .u8 w.heap.size 32 _ 5 rfl (HZ5.out.setRow _ _) dB bZ) rfl ⟨rfl,H5.out.keep CR fun e=> by have:=HPL.out;omega,C5.out.trans (wV.SY CR) fun b e=> .inr (by omega)⟩
end
inductive Su where
 | by (sd:Nat->Int) (n:Nat)
 | tm (S:TS)
def Su.size:Su->Nat
 | .by _ n=> n
 | .tm S=> S.l.length
abbrev UA:Type:=List Int × Int × Su
def BP (B:Nat) (w:World) (p:Nat) (F:Nat->Prop):Su->Prop
 | .by sd n=> AV B w p sd n/\∀b,¬ F b
 | .tm S=> wU B w p F S
section
variable {B : Nat} {w w' w1 w2 w3 : World} {p q : Nat} {F F' G G' : Nat -> Prop} {sd : Nat -> Int} {n : Nat} {v u v' : Value} {l l' : List Int} {X X' : Su} {S : TS}
theorem BP.below (h:BP B w p F X) (hb:Below w.heap.size w w'):BP B w' p F X:=by
 cases X with
 | «by» sd n=> exact ⟨h.1.below hb,h.2⟩
 | tm S=> exact wU.below h hb
theorem wU.pLt (h:wU B w p F S):p<w.heap.size/\B<=p:=by obtain ⟨q,G,h,_⟩:=h;exact ⟨h.r.row.lt,h.hp⟩
theorem BP.pLt (h:BP B w p F X):p<w.heap.size/\B<=p:=by
 cases X with
 | «by» sd n=> exact ⟨h.1.lt,h.1.hp⟩
 | tm S=> exact wU.pLt h
theorem BP.hi (h:BP B w p F X) {b:Nat} (hb:b=p\/F b):B<=b:=by
 rcases hb with rfl | hb
 ·exact h.pLt.2
 ·cases X with
  | «by» sd n=> exact absurd hb (h.2 b)
  | tm S=> exact wU.hi h hb
def WC (B:Nat) (w:World) (p:Nat) (F:Nat->Prop) (v:Value) (r:UA) (w':World):Prop:=∃F',BP B w' p F' r.2.2/\eF F' w' v r.1/\wV p F w w'/\∀b,F' b->F b\/w.heap.size<=b
theorem JL.su {r:TA} (h:JL B w p F v r w'):WC B w p F v (r.1,r.2.1,.tm r.2.2) w':=by
 obtain ⟨F',h1,h2,h3,h4⟩:=h;exact ⟨F',h1,h2,wV.SY h3,h4⟩
theorem eF.any {f:Nat->Int} {m:Nat} (h:Rd .u8 w v m f) (hf:∀i,i<m->0<=f i/\f i<256) (hF:∀b,¬ F b):eF F w v (lK m f):=⟨rH hf,h.lK,fun _ b _=> hF b⟩
def Su.draw:Su->Int->UA
 | .by sd n,s=> if isSort s=true then (lK 32 (jg sd n),0,.by sd (n+1)) else ([],2,.by sd n)
 | .tm S,s=> ((vg S s).1,(vg S s).2.1,.tm (vg S s).2.2)
theorem yw (h:BP B w p F (.by sd n)) (hb:Below w.heap.size w w') (er:Int):WC B w p F (.slice none 0 0) ([],er,.by sd n) w':=
 ⟨F,⟨h.1.below hb,h.2⟩,eF.nil _ _,.of_below hb _,fun b hb=> .inl hb⟩
theorem Nh {m k:Nat} {f:Nat->Int} (h:BP B w p F (.by sd n)) (hs:AV B w1 p sd k) (hc:wV p (fun _=> False) w w1) (hr:Rd .u8 w1 v m f) (hf:∀i,i<m->0<=f i/\f i<256) (er:Int):WC B w p F v (lK m f,er,.by sd k) w1:=
 ⟨F,⟨hs,h.2⟩,eF.any hr hf h.2,⟨hc.wN.mono fun b _ hb=> hb.imp id fun h=> h.elim,fun b hb _=> hc.u8 b hb id⟩,fun b hb=> .inl hb⟩
theorem OM (h:BP B w p F (.by sd n)) (s:Int) (hn:n<=900):Calls Tryz.prog 26 #[.pointer (some ⟨p,0,none⟩),.int .i64 s] w fun e w'=> ∃u,e=.returned (.tuple #[u,.int .i64 (Su.draw (.by sd n) s).2.1])/\WC B w p F u (Su.draw (.by sd n) s) w':=by
 have HQ:=ak h;have HL:=ak hn;have HW:=ak (eG h.1.r);obtain ⟨R,hR⟩:∃x,x=Su.draw (.by sd n) s:=⟨_,rfl⟩
 rw [<-hR];have HR:=ak hR;have ck:=h.1.r.ck;clear hR h hn;by_cases hs:1<=s/\s<=4
 ·have HS:Hid (isSort s=true):=ak (by unfold isSort;rw [decide_eq_true hs.1,decide_eq_true hs.2];rfl);have HE:Hid (R=(lK 32 (jg sd n),0,.by sd (n+1))):=ak (by rw [HR.out];exact if_pos HS.out);have h1:decide (s<1)=false:=decide_eq_false (by omega);have h2:decide (4<s)=false:=decide_eq_false (by omega);clear hs
  go_enter Tryz.func26,Tryz.ntmps26
  go_wp2_with fail;refine HW.out.mono ?_;rintro e w1 ⟨rfl,rfl⟩;go_wp2_with fail;refine (qF HQ.out.1 (by have:=HL.out;omega)).mono ?_;rintro e w2 ⟨rfl,h2,c2⟩;have H2:=ak h2;have C2:=ak c2;clear h2 c2 ck;obtain ⟨D,hD⟩:∃D,D=jg sd n:=⟨_,rfl⟩
  rw [<-hD] at HE ⊢;have FW:Hid (∀i,i<32->0<=D i/\D i<256):=ak fun i _=> hD▸vw sd n i;clear hD;go_upto_region 8 with (refine aH rfl 22 _ _ rfl .u8 w2.heap.size 32 (fun _=> 0) D bZ rfl rfl (bg rfl (by rfl)) ?_);refine aC (fun w4=> aD .u8 w4 w2.heap.size 32 D/\Below w2.heap.size w2 w4) ⟨(show aD .u8 (w2.alloc (.cells (arr .u8 32 (fun _=> 0)) 22)) w2.heap.size 32 (fun _=> 0) from bg rfl rfl).setRow 32 D,ay ((bA _ _).alloc (aP _) _) (aP _) _⟩ ?_;rintro w4 ⟨h4,b4⟩;have HD:=ak (Nh HQ.out (H2.out.below b4) (C2.out.trans (wV.of_below b4 (fun _=> False)) fun _ h=> .inl h) (h4.rd (by decide)) FW.out 0);clear h4 b4;go_wp2;go_ret2;rw [HE.out];exact ⟨_,rfl,HD.out⟩
 ·have HE:Hid (R=([],2,.by sd n)):=ak (by
   rw [HR.out];refine if_neg fun h=> ?_;simp only [isSort,FT,decide_eq_true_eq] at h;exact hs h)
  by_cases h1:s<1
  ·have h1':decide (s<1)=true:=decide_eq_true h1;clear hs h1
   go_enter Tryz.func26,Tryz.ntmps26
   go_wp2_with fail;refine HW.out.mono ?_;rintro e w1 ⟨rfl,rfl⟩;go_wp2;go_ret2;rw [HE.out];exact ⟨_,rfl,yw HQ.out (bA _ _) 2⟩
  ·have h1':decide (s<1)=false:=decide_eq_false h1;have h2':decide (4<s)=true:=decide_eq_true (by omega);clear hs h1
   go_enter Tryz.func26,Tryz.ntmps26
   go_wp2_with fail;refine HW.out.mono ?_;rintro e w1 ⟨rfl,rfl⟩;go_wp2;go_ret2;rw [HE.out];exact ⟨_,rfl,yw HQ.out (bA _ _) 2⟩
end
def tQ (m:Nat) (f:Nat->Int):Nat->Int:=bf (lK m f)
theorem zP {m i:Nat} {f:Nat->Int} (h:i<m):tQ m f i=f i:=mZ h
theorem Py {m:Nat} {f g:Nat->Int} (h:∀i,i<m->f i=g i):tQ m f=tQ m g:=by unfold tQ;rw [vZ h]
theorem yG (k:IntKind) (m:Nat) (f:Nat->Int):arr k m f=arr k m (tQ m f):=dY fun i hi=> (zP hi).symm
def CV (sd:Nat->Int) (n:Nat) (a b:List Int):UA:=if a.length=32 then (lK (12+(b.length+16)) (gK 12 (jg sd n) (eP (bf a) (tQ 12 (jg sd n)) 0 (fun _=> 0) b.length (bf b))),0,.by sd (n+1)) else ([],11,.by sd n)
def gQ (a c:List Int):List Int × Int:=
 if a.length=32 then
  if c.length<28 then ([],10)
  else if jS (bf a) (tQ 12 (bf c)) 0 (fun _=> 0) (c.length - 28) (fun i=> bf c (12+i))=true then (lK (c.length - 28) (fT (bf a) (tQ 12 (bf c)) 1 (fun i=> bf c (12+i))),0) else ([],20)
 else ([],11)
theorem Kz {F:Nat->Prop} {w w':World} {v:Value} {r:List Int × Int} (h:∃u,v=.tuple #[u,.int .i64 r.2] /\eF F w u r.1) (hb:Below w.heap.size w w'):∃u,v=.tuple #[u,.int .i64 r.2] /\eF F w' u r.1:=by
 obtain ⟨u,e,h⟩:=h;exact ⟨u,e,h.below hb⟩
section
variable {B : Nat} {w w' w1 w2 w3 : World} {p q : Nat} {F F' G G' : Nat -> Prop} {sd : Nat -> Int} {n : Nat} {v u v' : Value} {l l' : List Int} {X X' : Su} {S : TS}
theorem Gu (h:BP B w p F (.by sd n)) (hb:eF F w v l) (hb':eF F w v' l') (hl':l'.length<=1000):Calls Tryz.prog 23 #[.pointer (some ⟨p,0,none⟩),v,v'] w fun e w'=> ∃u,e=.returned (.tuple #[u,.int .i64 (gQ l l').2])/\eF F w' u (gQ l l').1/\Below w.heap.size w w':=by
 have HQ:=ak h;have HW:=ak (eG h.1.r);have HNF:=ak h.2;obtain ⟨R,hR⟩:∃x,x=gQ l l':=⟨_,rfl⟩
 rw [<-hR];have HR:=ak hR;by_cases hl:l.length=32
 ·have hr1:=hb.rd;rw [hl] at hr1;have HK:=ak (rD hr1);have sV:=ak hb.ok;have JU:=ak hb'.ok;have HV:=ak hb'.rd;obtain ⟨N,hN⟩:∃N,N=l'.length:=⟨_,rfl⟩
  rw [<-hN] at HV hl';obtain ⟨av,cv,rfl,_⟩:=hb.rd;obtain ⟨Kj,cv',rfl,hc1,hc2,_,_⟩:=id HV.out;by_cases h12:N<12
  ·have HE:Hid (R=([],10)):=ak (by rw [HR.out];unfold gQ;rw [if_pos hl,if_pos (by omega)]);have aki:(N:Int)<12:=by omega
   clear hR h hb hb' hl hN h12 hr1
   go_enter Tryz.func23,Tryz.ntmps23
   go_wp2_with fail;refine HW.out.mono ?_;rintro e w1 ⟨rfl,rfl⟩;go_wp2_with fail;refine HK.out.mono ?_;rintro e w2 ⟨rfl,b2⟩;have B2:=ak b2;clear b2;go_upto_region 4 with (refine aH rfl 22 _ _ rfl .u8 w2.heap.size 32 (fun _=> 0) (bf l) bZ rfl rfl (bg rfl (by rfl)) ?_);refine aC (fun w3=> Below w1.heap.size w1 w3) (ay (B2.out.alloc B2.out.size _) B2.out.size _) ?_;rintro w3 b3;have B3:=ak b3;clear b3;go_wp2;go_ret2;rw [HE.out];exact ⟨_,rfl,eF.nil _ _,B3.out⟩
  ·have aki:¬ (N:Int)<12:=by omega
   obtain ⟨K,hK⟩:∃K,K=bf l:=⟨_,rfl⟩
   obtain ⟨C,hC⟩:∃C,C=bf l':=⟨_,rfl⟩
   have Km:Hid (∀i,i<32->0<=K i/\K i<256):=ak fun i hi=> hK▸sV.out.at i (by omega);have HCB:Hid (∀i,i<N->0<=C i/\C i<256):=ak fun i hi=> hC▸JU.out.at i (by omega);have ZP:Hid (R=if N<28 then ([],10) else if jS K (tQ 12 C) 0 (fun _=> 0) (N - 28) (fun i=> C (12+i))=true then (lK (N - 28) (fT K (tQ 12 C) 1 (fun i=> C (12+i))),0) else ([],20)):=ak (by rw [HR.out,hK,hC,hN];unfold gQ;rw [if_pos hl]);rw [<-hK] at HK;rw [<-hC] at HV;have G1:=ak (Rd.head (P:=Tryz.prog) fQ iW Kj N cv' 12 (by omega) hc1);obtain ⟨a2,g1,g2,g3⟩:=Rd.cut (P:=Tryz.prog) fQ iW Kj N cv' 12 N (by omega) (aP _) hc1;have G2:=ak g2;have WG:Hid (∀w,Rd .u8 w (.slice Kj N cv') N C->Rd .u8 w (.slice a2 (N - 12) (cv' - 12)) (N - 12) (fun i=> C (12+i))):=ak fun w h=> (g3 w C h).2;obtain ⟨b1,o1,q1,l1,c1⟩:=(G1.out.2 _ _ HV.out).wC (by decide);subst q1;have sW:=ak c1;have Kl:Hid (∀w u,Rd .u8 w u (N - 12) (fun i=> C (12+i))->Calls Tryz.prog 78 #[.agg (arr .u8 32 K),.agg (arr .u8 12 C),.slice none 0 0,u] w fun e w'=> ∃x,e=.returned x/\(∃u,x=.tuple #[u,.int .i64 R.2] /\eF F w' u R.1)/\Below w.heap.size w w'):=ak fun w u hu=> by
    rw [yG .u8 12 C];by_cases h28:N<28
    ·refine (JH K (tQ 12 C) (.slice none 0 0) u 0 (N - 12) (fun _=> 0) _ w (Rd.nil _ _ _) hu (by decide) (by omega)).mono ?_;rintro e w' ⟨rfl,b⟩;rw [ZP.out,if_pos h28];exact ⟨_,rfl,⟨_,rfl,eF.nil _ _⟩,b⟩
    ·rw [show N - 12=(N - 28)+16 by omega] at hu;refine (Du K (tQ 12 C) Km.out (fun i hi=> by rw [zP hi];exact HCB.out i (by omega)) (.slice none 0 0) u 0 (N - 28) (fun _=> 0) _ w (Rd.nil _ _ _) hu (fun i hi=> by omega) (fun i hi=> HCB.out _ (by omega)) (by decide) (by omega)).mono ?_;rintro e w' ⟨x,rfl,ho,b⟩;rw [ZP.out,if_neg h28]
     cases hok:jS K (tQ 12 C) 0 (fun _=> 0) (N - 28) (fun i=> C (12+i)) with
     | false=>
      rw [hok] at ho;rw [if_neg (by decide)];exact ⟨_,rfl,⟨_,ho.2 rfl,eF.nil _ _⟩,b⟩
     | true=>
      rw [hok] at ho;obtain ⟨u',e',hr⟩:=ho.1 rfl;rw [if_pos rfl];exact ⟨_,rfl,⟨u',e',eF.any hr (fun i _=> mV _ _ _ _ i) HNF.out⟩,b⟩
   clear hR h hb hb' hl hN h12 hr1 HR ZP hK hC g1 g2 g3 c1 Km HCB sV JU hl'
   go_enter Tryz.func23,Tryz.ntmps23
   go_wp2_with fail;refine HW.out.mono ?_;rintro e w1 ⟨rfl,rfl⟩;go_wp2_with fail;refine HK.out.mono ?_;rintro e w2 ⟨rfl,b2⟩;have B2:=ak b2;clear b2;go_upto_region 4 with (refine aH rfl 22 _ _ rfl .u8 w2.heap.size 32 (fun _=> 0) K bZ rfl rfl (bg rfl (by rfl)) ?_);refine aC (fun w3=> aD .u8 w3 w2.heap.size 32 K/\Below w1.heap.size w1 w3) ⟨(show aD .u8 (w2.alloc (.cells (arr .u8 32 (fun _=> 0)) 22)) w2.heap.size 32 (fun _=> 0) from bg rfl rfl).setRow 32 K,ay (B2.out.alloc B2.out.size _) B2.out.size _⟩ ?_;rintro w3 ⟨h8,hbel⟩;have l1':b1<w3.heap.size:=tN l1 hbel.size;have Wq:Hid (∀i,i<12->w3.cell? ⟨b1,o1+i,none⟩=some (.int .u8 (C i))):=fun i hi=> (hbel.cell (p:=⟨b1,o1+i,none⟩) l1).trans (sW.out i hi);have FM:=ak (HV.out.below hbel);clear sW l1;go_upto_region 8 with (fail)
   refine aT (n:=81) (by kernel_rfl) (by kernel_rfl) (by kernel_rfl) rfl
    (fun ii vv ww=> (match ii with | 0=> vv=.agg (arr .u8 32 (K)) | 1 | 5=> vv=.slice (some ⟨b1,o1,none⟩) N cv' | 2=> vv=.slice (some ⟨b1,o1,none⟩) 12 cv' | 3=> vv=.pointer (some ⟨b1,o1,none⟩) | 4=> vv=.agg (arr .u8 12 (C)) | 6=> vv=.slice a2 (N - 12) (cv' - 12) | 9 | 11=> vv=.int .i64 (R.2) | _=> True)/\(ii=7->∃u,vv=.tuple #[u,.int .i64 R.2] /\eF F ww u R.1)/\(ii=8->eF F ww vv R.1)/\(ii=10->eF F ww vv R.1))
    (fun w w'=> Below w.heap.size w w') (fun _ _ h=> h) (fun i v w w' h hE=> ⟨h.1,fun e=> Kz (h.2.1 e) hE,fun e=> eF.below (h.2.2.1 e) hE,fun e=> eF.below (h.2.2.2 e) hE⟩) ?_ ?_
   ·refine dD ?_;refine ⟨?_,?_,?_,?_,?_,?_,?_,?_,?_,?_,?_,?_,trivial⟩
    ·intro a w2 hB hF hd;exact aG <| aO (aB rfl dB rfl bZ (hF.same 8 rfl) (h8.below hB h8.lt)) ⟨rfl,aF,aF,aF⟩
    ·intro a w2 hB hF hd;exact aG <| bJ rfl ⟨(hF.same 2 rfl),aF,aF,aF⟩
    ·intro a w2 hB hF hd;exact aG <| aO (aZ rfl ((hd 1 _ rfl (aj rfl)).1) (by simp only [Option.map_some,Option.map_none];exact G1.out.1 _)) ⟨rfl,aF,aF,aF⟩
    ·intro a w2 hB hF hd;exact aG <| aO (iD rfl ((hd 2 _ rfl (aj rfl)).1) tT (by decide)) ⟨rfl,aF,aF,aF⟩
    ·intro a w2 hB hF hd;exact aG <| aO (gI rfl ((hd 3 _ rfl (aj rfl)).1) tT AL (fun i hi=> (hB.cell (p:=⟨b1,o1+i,none⟩) l1').trans (Wq.out i hi))) ⟨rfl,aF,aF,aF⟩
    ·intro a w2 hB hF hd;exact aG <| bJ rfl ⟨(hF.same 2 rfl),aF,aF,aF⟩
    ·intro a w2 hB hF hd;exact aG <| aO (aZ rfl ((hd 5 _ rfl (aj rfl)).1) (by simp only [Option.map_some,Option.map_none];exact G2.out _)) ⟨rfl,aF,aF,aF⟩
    ·intro a w2 hB hF hd;refine aG <| aI _ _ _ rfl Tryz.call78 _ (lG ((hd 0 _ rfl (aj rfl)).1) ((hd 4 _ rfl (aj rfl)).1) rfl ((hd 6 _ rfl (aj rfl)).1)) (by simp) ((Kl.out w2 _ (WG.out _ (FM.out.below hB))).mono ?_);rintro e w3 ⟨u,rfl,hr,hb⟩;exact ⟨u,rfl,⟨trivial,fun _=> hr,aF,aF⟩,hb⟩
    ·intro a w2 hB hF hd;rw [if_pos (bG rfl)];obtain ⟨u_,wJ,CZ⟩:=((hd 7 _ rfl (aj rfl)).2.1 rfl)
     exact aO (aU rfl wJ rfl) ⟨trivial,aF,fun _=> (CZ),aF⟩
    ·intro a w2 hB hF hd;rw [if_pos (bG rfl)];obtain ⟨u_,wJ,CZ⟩:=((hd 7 _ rfl (aj rfl)).2.1 rfl)
     exact aO (aU rfl wJ rfl) ⟨rfl,aF,aF,aF⟩
    ·intro a w2 hB hF hd;exact aG <| lS rfl ⟨trivial,aF,aF,fun _=> ((hd 8 _ rfl (aj rfl)).2.2.1 rfl)⟩
    ·intro a w2 hB hF hd;exact aG <| lS rfl ⟨((hd 9 _ rfl (aj rfl)).1),aF,aF,aF⟩
   ·intro a w4 hB hF hS;obtain ⟨x40,LP⟩:∃x,x=a.tmps.getD 40 undef:=⟨_,rfl⟩
    have P40:∃u,x40=.tuple #[u,.int .i64 R.2] /\eF F w4 u R.1:=by rw [LP];exact (hS 7 _ rfl).2.1 rfl
    obtain ⟨x41,LM⟩:∃x,x=a.tmps.getD 41 undef:=⟨_,rfl⟩
    have P41:eF F w4 x41 R.1:=by rw [LM];exact (hS 8 _ rfl).2.2.1 rfl
    obtain ⟨x6,hx6⟩:∃x,x=a.tmps.getD 6 undef:=⟨_,rfl⟩
    have P6:eF F w4 x6 R.1:=by rw [hx6];exact (hS 10 _ rfl).2.2.2 rfl
    have ha:=aK rfl rfl hF [_,_,_,_,_,_,_,x40,x41,_,x6,_] rfl ⟨(hS 0 _ rfl).1,(hS 1 _ rfl).1,(hS 2 _ rfl).1,(hS 3 _ rfl).1,(hS 4 _ rfl).1,(hS 5 _ rfl).1,(hS 6 _ rfl).1,LP.symm,LM.symm,(hS 9 _ rfl).1,hx6.symm,(hS 11 _ rfl).1,trivial⟩;simp only [puts,Act.put,dS,dU,dV] at ha;subst ha;clear LP LM hx6;clear hS hF;have hb4:=ak (hbel.trans (hB.mono hbel.size));have HP:=ak P6;clear P6 P40 P41 h8 hbel hB l1' Wq;go_wp2;go_ret2;exact ⟨_,rfl,HP.out,hb4.out⟩
 ·have HK:=ak (uq hb.rd hl);have HE:Hid (R=([],11)):=ak (by rw [HR.out];exact if_neg hl);obtain ⟨av,cv,rfl,_⟩:=hb.rd;obtain ⟨Kj,cv',rfl,_⟩:=hb'.rd;clear hR h hb hb' hl
  go_enter Tryz.func23,Tryz.ntmps23
  go_wp2_with fail;refine HW.out.mono ?_;rintro e w1 ⟨rfl,rfl⟩;go_wp2_with fail;refine HK.out.mono ?_;rintro e w2 ⟨rfl,b2⟩;have B2:=ak b2;clear b2;go_upto_region 4 with (refine aH rfl 22 _ _ rfl .u8 w2.heap.size 32 (fun _=> 0) (fun _=> 0) bZ rfl rfl (bg rfl (by rfl)) ?_);refine aC (fun w3=> Below w1.heap.size w1 w3) (ay (B2.out.alloc B2.out.size _) B2.out.size _) ?_;rintro w3 b3;have B3:=ak b3;clear b3;go_wp2;go_ret2;rw [HE.out];exact ⟨_,rfl,eF.nil _ _,B3.out⟩
theorem OJ (h:BP B w p F (.by sd n)) (hb:eF F w v l) (hb':eF F w v' l') (hn:n<=900) (hl':l'.length<=1000):Calls Tryz.prog 16 #[.pointer (some ⟨p,0,none⟩),v,v'] w fun e w'=> ∃u,e=.returned (.tuple #[u,.int .i64 (CV sd n l l').2.1])/\WC B w p F u (CV sd n l l') w':=by
 have HQ:=ak h;have HW:=ak (eG h.1.r);obtain ⟨R,hR⟩:∃x,x=CV sd n l l':=⟨_,rfl⟩
 rw [<-hR];have HR:=ak hR;by_cases hl:l.length=32
 ·have hr1:=hb.rd;rw [hl] at hr1;have HK:=ak (rD hr1);obtain ⟨D,hD⟩:∃D,D=jg sd n:=⟨_,rfl⟩
  obtain ⟨K,hK⟩:∃K,K=bf l:=⟨_,rfl⟩
  obtain ⟨N,hN⟩:∃N,N=l'.length:=⟨_,rfl⟩
  obtain ⟨SF,Db⟩:∃SF,SF=eP K (tQ 12 D) 0 (fun _=> 0) N (bf l'):=⟨_,rfl⟩
  have HE:Hid (R=(lK (12+(N+16)) (gK 12 D SF),0,.by sd (n+1))):=ak (by rw [HR.out,Db,hK,hD,hN];exact if_pos hl);have Km:Hid (∀i,i<32->0<=K i/\K i<256):=ak fun i hi=> hK▸hb.ok.at i (by omega);have FW:Hid (∀i,i<32->0<=D i/\D i<256):=ak fun i hi=> hD▸vw sd n i;have vN:Hid (∀i,0<=SF i/\SF i<256):=ak fun i=> Db▸qJ _ _ _ _ _ _ i;have HV:=ak hb'.rd;have HDR:=ak (fun w h=> qF (w:=w) (B:=B) (p:=p) (sd:=sd) (n:=n) h (by omega));have HSL:Hid (∀w x,Rd .u8 w x N (bf l')->Calls Tryz.prog 70 #[.agg (arr .u8 32 K),.agg (arr .u8 12 D),.slice none 0 0,x] w fun e w'=> ∃u,e=.returned u/\jK w' u (N+16) SF/\Below w.heap.size w w'):=ak fun w x hx=> by
   rw [yG .u8 12 D];refine (Dt K (tQ 12 D) Km.out (fun i hi=> by rw [zP hi];exact FW.out i (by omega)) (.slice none 0 0) x 0 N (fun _=> 0) _ w (Rd.nil _ _ _) hx (fun i hi=> by omega) (by decide) (by omega)).mono ?_;rintro e w' ⟨u,rfl,ho,b⟩;rw [<-Db] at ho;exact ⟨_,rfl,⟨u,rfl,ho.rd⟩,b⟩
  rw [<-hK] at HK;rw [<-hD] at HDR;rw [<-hN] at HV hl';have HNL:=ak hl';obtain ⟨av,cv,rfl,_⟩:=hb.rd;obtain ⟨Kj,cv',rfl,_⟩:=HV.out;clear hR h hb hb' hl hr1 hK hD hN Db HR hl' hn
  go_enter Tryz.func16,Tryz.ntmps16
  go_wp2_with fail;refine HW.out.mono ?_;rintro e w1 ⟨rfl,rfl⟩;go_wp2_with fail;refine HK.out.mono ?_;rintro e w2 ⟨rfl,b2⟩;have B2:=ak b2;clear b2;go_upto_region 4 with (refine aH rfl 22 _ _ rfl .u8 w2.heap.size 32 (fun _=> 0) K bZ rfl rfl (bg rfl (by rfl)) ?_);refine aC (fun w3=> aD .u8 w3 w2.heap.size 32 K/\Below w1.heap.size w1 w3) ⟨(show aD .u8 (w2.alloc (.cells (arr .u8 32 (fun _=> 0)) 22)) w2.heap.size 32 (fun _=> 0) from bg rfl rfl).setRow 32 K,ay (B2.out.alloc B2.out.size _) B2.out.size _⟩ ?_;rintro w3 ⟨h8,b3⟩;have H8:=ak h8;have B3:=ak b3;have Rh:Hid (p<w2.heap.size):=ak (tN HQ.out.1.lt B2.out.size);clear h8 b3;go_wp2_with fail;refine (HDR.out _ (HQ.out.1.below B3.out)).mono ?_;rintro e w4 ⟨rfl,h4,c4⟩;have H4:=ak h4;have C4:=ak ((wV.of_below B3.out (fun _=> False)).trans c4 fun _ h=> .inl h);have H84:Hid (aD .u8 w4 w2.heap.size 32 K):=ak (H8.out.wN c4.wN fun e=> e.elim (fun e=> by have:=Rh.out;omega) id);have ZM:Hid (Rd .u8 w4 (.slice Kj N cv') N (bf l')):=ak (HV.out.chS C4.out fun _ _ _=> id);have HL2:Hid (w2.heap.size<w4.heap.size):=ak H84.out.lt;clear h4 c4;go_upto_region 7 with (refine aH rfl 22 _ _ rfl .u8 w4.heap.size 32 (fun _=> 0) D bZ rfl rfl (bg rfl (by rfl)) ?_);refine aC (fun w5=> aD .u8 w5 w4.heap.size 32 D/\Below w4.heap.size w4 w5) ⟨(show aD .u8 (w4.alloc (.cells (arr .u8 32 (fun _=> 0)) 22)) w4.heap.size 32 (fun _=> 0) from bg rfl rfl).setRow 32 D,ay ((bA _ _).alloc (aP _) _) (aP _) _⟩ ?_;rintro w5 ⟨h10,b5⟩;have h8:=H84.out.kept b5;have HV5:=ak (ZM.out.below b5);have H5:=ak (H4.out.below b5);have C5:=ak (C4.out.trans (wV.of_below b5 (fun _=> False)) fun _ h=> .inl h);obtain ⟨q,hq⟩:∃q,q=w4.heap.size:=⟨_,rfl⟩
  rw [<-hq] at h10 ⊢;obtain ⟨r,hr⟩:∃r,r=w2.heap.size:=⟨_,rfl⟩
  rw [<-hr] at h8 ⊢;have Wy:=h10.lt;have aht:Hid (∀i,i<12->w5.cell? ⟨q,0+i,none⟩=some (.int .u8 (D i))):=ak fun i hi=> by rw [lH,h10.cell i (by omega)]
  clear hq hr b5
  refine aT (n:=49) (by kernel_rfl) (by kernel_rfl) (by kernel_rfl) rfl
   (fun ii vv ww=> (match ii with | 0=> vv=.agg (arr .u8 32 (K)) | 1=> vv=.slice (some ⟨q,0,none⟩) 12 32 | 2=> vv=.pointer (some ⟨q,0,none⟩) | 3=> vv=.agg (arr .u8 12 (D)) | 4=> vv=.slice Kj N cv' | 8 | 10=> vv=.int .i64 (0) | _=> True)/\(ii=5->jK ww vv (N+16) SF)/\(ii=6->jK ww vv (N+16) SF)/\(ii=7->Rd .u8 ww vv (N+16) (SF))/\(ii=9->Rd .u8 ww vv (N+16) (SF)))
   (fun w w'=> Below w.heap.size w w') (fun _ _ h=> h) (fun i v w w' h hE=> ⟨h.1,fun e=> jK.below (h.2.1 e) hE,fun e=> jK.below (h.2.2.1 e) hE,fun e=> Rd.below (h.2.2.2.1 e) hE,fun e=> Rd.below (h.2.2.2.2 e) hE⟩) ?_ ?_
  ·refine dD ?_;refine ⟨?_,?_,?_,?_,?_,?_,?_,?_,?_,?_,?_,trivial⟩
   ·intro a w2 hB hF hd;exact aG <| aO (aB rfl dB rfl bZ (hF.same 8 rfl) (h8.below hB h8.lt)) ⟨rfl,aF,aF,aF,aF⟩
   ·intro a w2 hB hF hd;exact aG <| aO (aZ rfl (hF.same 10 rfl) (by simp only [Option.map_some,Option.map_none];exact iN (m:=12) dB Tryz.size5 (by decide))) ⟨rfl,aF,aF,aF,aF⟩
   ·intro a w2 hB hF hd;exact aG <| aO (iD rfl ((hd 1 _ rfl (aj rfl)).1) tT (by decide)) ⟨rfl,aF,aF,aF,aF⟩
   ·intro a w2 hB hF hd;exact aG <| aO (gI rfl ((hd 2 _ rfl (aj rfl)).1) tT AL (fun i hi=> (hB.cell (p:=⟨q,0+i,none⟩) Wy).trans (aht.out i hi))) ⟨rfl,aF,aF,aF,aF⟩
   ·intro a w2 hB hF hd;exact aG <| bJ rfl ⟨(hF.same 2 rfl),aF,aF,aF,aF⟩
   ·intro a w2 hB hF hd;refine aG <| aI _ _ _ rfl Tryz.call70 _ (lG ((hd 0 _ rfl (aj rfl)).1) ((hd 3 _ rfl (aj rfl)).1) rfl ((hd 4 _ rfl (aj rfl)).1)) (by simp) ((HSL.out w2 _ (HV5.out.below hB)).mono ?_);rintro e w3 ⟨u,rfl,hr,hb⟩;exact ⟨u,rfl,⟨trivial,fun _=> hr,aF,aF,aF⟩,hb⟩
   ·intro a w2 hB hF hd;exact aG <| bJ rfl ⟨trivial,aF,fun _=> ((hd 5 _ rfl (aj rfl)).2.1 rfl),aF,aF⟩
   ·intro a w2 hB hF hd;rw [if_pos (bG rfl)];obtain ⟨u_,wJ,CZ⟩:=((hd 6 _ rfl (aj rfl)).2.2.1 rfl)
    exact aO (aU rfl wJ rfl) ⟨trivial,aF,aF,fun _=> (CZ),aF⟩
   ·intro a w2 hB hF hd;rw [if_pos (bG rfl)];obtain ⟨u_,wJ,CZ⟩:=((hd 6 _ rfl (aj rfl)).2.2.1 rfl)
    exact aO (aU rfl wJ rfl) ⟨rfl,aF,aF,aF,aF⟩
   ·intro a w2 hB hF hd;exact aG <| lS rfl ⟨trivial,aF,aF,aF,fun _=> ((hd 7 _ rfl (aj rfl)).2.2.2.1 rfl)⟩
   ·intro a w2 hB hF hd;exact aG <| lS rfl ⟨((hd 8 _ rfl (aj rfl)).1),aF,aF,aF,aF⟩
  ·intro a w6 hB hF hS;obtain ⟨x32,hx32⟩:∃x,x=a.tmps.getD 32 undef:=⟨_,rfl⟩
   have P32:jK w6 x32 (N+16) SF:=by rw [hx32];exact (hS 5 _ rfl).2.1 rfl
   obtain ⟨Ww,Aa⟩:∃x,x=a.tmps.getD 26 undef:=⟨_,rfl⟩
   have P26:jK w6 Ww (N+16) SF:=by rw [Aa];exact (hS 6 _ rfl).2.2.1 rfl
   obtain ⟨x33,abw⟩:∃x,x=a.tmps.getD 33 undef:=⟨_,rfl⟩
   have P33:Rd .u8 w6 x33 (N+16) (SF):=by rw [abw];exact (hS 7 _ rfl).2.2.2.1 rfl
   obtain ⟨x11,abA⟩:∃x,x=a.tmps.getD 11 undef:=⟨_,rfl⟩
   have P11:Rd .u8 w6 x11 (N+16) (SF):=by rw [abA];exact (hS 9 _ rfl).2.2.2.2 rfl
   have ha:=aK rfl rfl hF [_,_,_,_,_,x32,Ww,x33,_,x11,_] rfl ⟨(hS 0 _ rfl).1,(hS 1 _ rfl).1,(hS 2 _ rfl).1,(hS 3 _ rfl).1,(hS 4 _ rfl).1,hx32.symm,Aa.symm,abw.symm,(hS 8 _ rfl).1,abA.symm,(hS 10 _ rfl).1,trivial⟩;simp only [puts,Act.put,dS,dU,dV] at ha;subst ha;clear hx32 Aa abw abA;clear hS hF;have HR6:=ak P11;have H6:=ak (H5.out.below hB);have C6:=ak (C5.out.trans (wV.of_below hB (fun _=> False)) fun _ h=> .inl h);have hq6:∀i,i<12->w6.cell? ⟨q,0+i,none⟩=some (.int .u8 (gK 12 D SF i)):=fun i hi=> by rw [jW hi];exact (hB.cell (p:=⟨q,0+i,none⟩) Wy).trans (aht.out i hi)
   have HQ6:=ak hq6;obtain ⟨ax,cx,ex,_⟩:=id HR6.out;subst ex;have ZQ:Hid (0<N+16):=ak (by omega);have HNC:Hid ((12+(N+16)) * 1<=140737488355328):=ak (by have:=HNL.out;omega);clear P11 P26 P32 P33 h8 h10 hB Wy hq6;go_wp2_with (at_builtin;refine xO rfl _ _ 23 rfl 5 .u8 1 fQ iW q 0 12 (gK 12 D SF) HQ6.out rfl _ (N+16) SF HR6.out rfl ZQ.out (fun i _=> iQ) HNC.out (by have:=HNC.out;omega) ?_;intro v7 w7 Yk b7);have HD:=ak (Nh HQ.out (H6.out.below b7) (C6.out.trans (wV.of_below b7 (fun _=> False)) fun _ h=> .inl h) Yk (fO (fun i hi=> FW.out i (by omega)) fun i _=> vN.out i) 0);clear Yk b7;go_wp2;go_ret2;rw [HE.out];exact ⟨_,rfl,HD.out⟩
 ·have HK:=ak (uq hb.rd hl);have HE:Hid (R=([],11,.by sd n)):=ak (by rw [HR.out];exact if_neg hl);obtain ⟨av,cv,rfl,_⟩:=hb.rd;obtain ⟨Kj,cv',rfl,_⟩:=hb'.rd;clear hR h hb hb' hl
  go_enter Tryz.func16,Tryz.ntmps16
  go_wp2_with fail;refine HW.out.mono ?_;rintro e w1 ⟨rfl,rfl⟩;go_wp2_with fail;refine HK.out.mono ?_;rintro e w2 ⟨rfl,b2⟩;have B2:=ak b2;clear b2;go_upto_region 4 with (refine aH rfl 22 _ _ rfl .u8 w2.heap.size 32 (fun _=> 0) (fun _=> 0) bZ rfl rfl (bg rfl (by rfl)) ?_);refine aC (fun w3=> Below w1.heap.size w1 w3) (ay (B2.out.alloc B2.out.size _) B2.out.size _) ?_;rintro w3 b3;have HD:=ak (yw HQ.out b3 11);clear b3;go_wp2;go_ret2;rw [HE.out];exact ⟨_,rfl,HD.out⟩
end
end Go.Proofs.YtpcjekgfnfjbpaaGreat
namespace Go.Proofs.YtpcjekgfnfjbpaaGreat
open Go.RowKit Go.aQ Go.ChangeShapes Go.Maps
structure MS (w0:World) (B:Nat) (w:World) (p:Nat) (F:Nat->Prop) (X:Su) (L:List (Value × List Int)):Prop where
 m:BP B w p F X
 b:Below w0.heap.size w0 w
 y:∀(j:Nat) (v:Value) (l:List Int),L[j]? =some (v,l)->eF F w v l
 g:w0.heap.size<=B
section
variable {w0 w w' : World} {B p : Nat} {F : Nat -> Prop} {X : Su} {L : List (Value × List Int)} {u v : Value} {l : List Int} {r : UA}
theorem MS.one (m:BP B w p F X) (b:Below w0.heap.size w0 w) (hy:eF F w v l) (g:w0.heap.size<=B):MS w0 B w p F X [(v,l)] :=⟨m,b,fun j v l hj=> by
 cases j with
 | zero=> cases hj;exact hy
 | succ j=> (cases hj),g⟩
theorem MS.step (h:MS w0 B w p F X L) (hr:WC B w p F u r w'):∃F',MS w0 B w' p F' r.2.2 ((u,r.1)::L):=by
 obtain ⟨F',m,y,c,f⟩:=hr;refine ⟨F',m,h.b.trans (c.wN.below h.b.size fun b hb=> qw h.g (h.m.hi hb)),fun j v l hj=> ?_,h.g⟩
 cases j with
 | zero=> cases hj;exact y
 | succ j=> exact (h.y j v l hj).chS c f
theorem MS.more (h:MS w0 B w p F X L) (hb:Below w.heap.size w w') (hy:eF F w' u l):MS w0 B w' p F X ((u,l)::L):=by
 refine ⟨h.m.below hb,h.b.trans (hb.mono h.b.size),fun j v l hj=> ?_,h.g⟩
 cases j with
 | zero=> cases hj;exact hy
 | succ j=> exact (h.y j v l hj).below hb
theorem MS.below (h:MS w0 B w p F X L) (hb:Below w.heap.size w w'):MS w0 B w' p F X L:=⟨h.m.below hb,h.b.trans (hb.mono h.b.size),fun j v l hj=> (h.y j v l hj).below hb,h.g⟩
end
end Go.Proofs.YtpcjekgfnfjbpaaGreat
namespace Go.Proofs.YtpcjekgfnfjbpaaGreat
open Go.RowKit Go.aQ Go.ChangeShapes Go.Maps
attribute [local go_sem ↓] Go.wp_at_zero Go.wp_at_succ
def Su.lock:Su->List Int->List Int->UA
 | .by sd n,a,b=> CV sd n a b
 | .tm S,a,b=> ((oV 5 S a b).1,(oV 5 S a b).2.1,.tm (oV 5 S a b).2.2)
def Su.unlock:Su->List Int->List Int->List Int × Int
 | .by _ _,a,c=> gQ a c
 | .tm S,a,c=> lX S a c
section
variable {B : Nat} {w w' w1 w2 w3 : World} {p q : Nat} {F F' G G' : Nat -> Prop} {sd : Nat -> Int} {n : Nat} {v u v' : Value} {l l' : List Int} {X X' X'' : Su} {S S' : TS}
theorem KH (h:BP B w p F X) (hb:eF F w v l) (hb':eF F w v' l') (hn:X.size<=900) (hl':l'.length<=1000):Calls Tryz.prog 16 #[.pointer (some ⟨p,0,none⟩),v,v'] w fun e w'=> ∃u,e=.returned (.tuple #[u,.int .i64 (X.lock l l').2.1])/\WC B w p F u (X.lock l l') w':=by
 cases X with
 | «by» sd n=> exact OJ h hb hb' hn hl'
 | tm S=> exact (OI h hb hb' hn).mono fun e w' ⟨u,h1,h2⟩=> ⟨u,h1,h2.su⟩
theorem uo (h:BP B w p F X) (hb:eF F w v l) (hb':eF F w v' l') (hn:X.size<=900) (hl':l'.length<=1000):Calls Tryz.prog 23 #[.pointer (some ⟨p,0,none⟩),v,v'] w fun e w'=> ∃u,e=.returned (.tuple #[u,.int .i64 (X.unlock l l').2])/\eF F w' u (X.unlock l l').1/\Below w.heap.size w w':=by
 cases X with
 | «by» sd n=> exact Gu h hb hb' hl'
 | tm S=> exact Gt h hb hb' (qw hn (by decide))
def Su.lk:Su->List Int->List Int->List Int->Prop
 | .by _ _,a,b,c=> a.length=32/\okB b/\∃D:Nat->Int,(∀i,i<12->0<=D i/\D i<256)/\c=lK (12+(b.length+16)) (gK 12 D (eP (bf a) (tQ 12 D) 0 (fun _=> 0) b.length (bf b)))
 | .tm S,a,b,c=> ∃n m k:Nat,a=jM n/\b=jM m/\c=jM k/\n<S.l.length/\m<S.l.length/\S.l[k]? =some (5,(n:Int),(m:Int))
theorem xw {key nonce:Nat->Int} {nb n:Nat} {fb f g:Nat->Int} (h:∀i,i<n+16->f i=g i):jS key nonce nb fb n f=jS key nonce nb fb n g:=by
 unfold jS;rw [AB (fun _ _=> rfl) fun i hi=> h i (by omega)];unfold jq;refine decide_eq_decide.2 ⟨fun h1 i hi=> ?_,fun h1 i hi=> ?_⟩
 ·exact (h1 i hi).trans (h (n+i) (by omega))
 ·exact (h1 i hi).trans (h (n+i) (by omega)).symm
theorem Su.OC {a b c:List Int} (hn:X.size<=900) (h:X.lk a b c):X.unlock a c=(b,0):=by
 cases X with
 | «by» sd n=>
  obtain ⟨ha,hb,D,hD,rfl⟩:=h;show gQ a _=(b,0);unfold gQ;rw [if_pos ha,fK,if_neg (by omega)];obtain ⟨N,hN⟩:∃N,N=b.length:=⟨_,rfl⟩
  rw [<-hN,show 12+(N+16) - 28=N by omega];obtain ⟨SF,Db⟩:∃SF,SF=eP (bf a) (tQ 12 D) 0 (fun _=> 0) N (bf b):=⟨_,rfl⟩
  rw [<-Db];have e1:tQ 12 (bf (lK (12+(N+16)) (gK 12 D SF)))=tQ 12 D:=Py fun i hi=> by rw [mZ (by omega),jW hi]
  have e2:∀i,i<N+16->bf (lK (12+(N+16)) (gK 12 D SF)) (12+i)=SF i:=fun i hi=> by rw [mZ (by omega),iQ]
  rw [e1,xw e2,Db,zL,if_pos rfl,←Db];have e3:lK N (fT (bf a) (tQ 12 D) 1 (fun i=> bf (lK (12+(N+16)) (gK 12 D SF)) (12+i)))=b:=by
   rw [<-Tx b,←hN];refine vZ fun i hi=> ?_;have:=Cx (key:=bf a) (nonce:=tQ 12 D) (nb:=0) (fb:=fun _=> 0) (n:=N) (f:=bf b) (fun i hi=> hb.at i (by omega)) i hi;rw [<-Db] at this;rw [<-this];show xo _ (bf (lK (12+(N+16)) (gK 12 D SF)) (12+i))=xo _ (SF i);rw [e2 i (by omega)]
  rw [e3]
 | tm S=>
  obtain ⟨n,m,k,rfl,rfl,rfl,h1,h2,h3⟩:=h;have hn':S.l.length<=900:=hn;have hk:=(List.getElem?_eq_some_iff.1 h3).1;show lX S _ _= _;unfold lX;rw [CG h1 (by omega),CG hk (by omega)];simp only [Kc,Xb h3];rw [if_pos (by simp)]
end
def xR (kd:Int) (sd:Nat->Int) (s:Value):Array Value:=(.int .i64 kd::(vals .u8 32 sd++ [.int .i64 0,s])).toArray
theorem aay (kd:Int) (sd:Nat->Int) (s:Value):(xR kd sd s)[0]? =some (.int .i64 kd):=rfl
theorem aax (kd:Int) (sd:Nat->Int) (s:Value) {i:Nat} (h:i<32):(xR kd sd s)[1+i]? =some (.int .u8 (sd i)):=by
 unfold xR;rw [List.getElem?_toArray,Nat.add_comm,List.getElem?_cons_succ,Rc (by simpa using h)];exact bR h
theorem Xe (kd:Int) (sd:Nat->Int) (s:Value):(xR kd sd s)[33]? =some (.int .i64 0):=rfl
theorem Xd (kd:Int) (sd:Nat->Int) (s:Value):(xR kd sd s)[34]? =some s:=rfl
theorem kF.new (w:World) (kd:Int) (sd:Nat->Int) (s:Value):kF (w.alloc (.cells (xR kd sd s) 105)) w.heap.size kd sd 0 s:=by
 have hb:=heap_alloc_new w (.cells (xR kd sd s) 105);have hc:=fun i=> cell_of_row _ _ i _ _ (0,0) hb;exact ⟨⟨_,hb,rfl⟩,(hc 0).trans (aay _ _ _),fun i hi=> (hc (1+i)).trans (aax _ _ _ hi),(hc 33).trans (Xe _ _ _),(hc 34).trans (Xd _ _ _)⟩
theorem Gv (w:World):Calls Tryz.prog 44 #[] w fun e w'=> ∃p F,e=.returned (.pointer (some ⟨p,0,none⟩))/\wU w.heap.size w' p F ⟨[], []⟩/\Below w.heap.size w w':=by
 go_enter Tryz.func44,Tryz.ntmps44
 go_wp2_with fail;refine (RG w).mono ?_;rintro e w1 ⟨q,G,rfl,h1,b1⟩;have H1:=ak h1;have B1:=ak b1;clear h1 b1;go_wp2;go_ret;have hr:=kF.new w1 2 (fun _=> 0) (.pointer (some ⟨q,0,none⟩));have ba:=(bA w1.heap.size w1).alloc (aP _) (.cells (xR 2 (fun _=> 0) (.pointer (some ⟨q,0,none⟩))) 105);exact ⟨_,fun b=> b=w1.heap.size\/G b,rfl,⟨q,G,⟨hr,H1.out.below ba,TS.few.nil,B1.out.size,fun hg=> by have:=H1.out.lt hg;omega⟩,fun _=> Iff.rfl⟩,B1.out.trans (ba.mono B1.out.size)⟩
theorem Qg (sd:Nat->Int):Array.foldl (fun (cs:Array Value) (x:Value × Nat)=> cs.setIfInBounds (1+x.snd) x.fst) #[.int .i64 1,.int .u8 0,.int .u8 0,.int .u8 0,.int .u8 0,.int .u8 0,.int .u8 0,.int .u8 0,.int .u8 0,.int .u8 0,.int .u8 0,.int .u8 0,.int .u8 0,.int .u8 0,.int .u8 0,.int .u8 0,.int .u8 0,.int .u8 0,.int .u8 0,.int .u8 0,.int .u8 0,.int .u8 0,.int .u8 0,.int .u8 0,.int .u8 0,.int .u8 0,.int .u8 0,.int .u8 0,.int .u8 0,.int .u8 0,.int .u8 0,.int .u8 0,.int .u8 0,.int .i64 0,.pointer none] (arr .u8 32 sd).zipIdx 0 32=xR 1 sd (.pointer none):=by kernel_rfl
theorem wX (sd:Nat->Int) (hs:∀i,i<32->0<=sd i/\sd i<256) (w:World):Calls Tryz.prog 12 #[.agg (arr .u8 32 sd)] w fun e w'=> ∃p,e=.returned (.pointer (some ⟨p,0,none⟩))/\AV w.heap.size w' p sd 0/\Below w.heap.size w w':=by
 have HS:=ak hs;clear hs
 go_enter Tryz.func12,Tryz.ntmps12
 go_upto_region 1 with (fail);refine aC (fun w1=> aD .u8 w1 w.heap.size 32 sd/\Below w.heap.size w w1) ⟨bg rfl rfl,(bA _ _).alloc (aP _) _⟩ ?_;rintro w1 ⟨h1,b1⟩;have H1:=ak h1;have B1:=ak b1;clear h1 b1;go_wp2_with (refine aM rfl 22 _ rfl .u8 w.heap.size 32 sd 5 dB bZ rfl H1.out ?_);rw [Qg];go_ret;have hr:=kF.new w1 1 sd (.pointer none);have ba:=(bA w1.heap.size w1).alloc (aP _) (.cells (xR 1 sd (.pointer none)) 105);have HR:Hid (AV w.heap.size (w1.alloc (.cells (xR 1 sd (.pointer none)) 105)) w1.heap.size sd 0/\Below w.heap.size w (w1.alloc (.cells (xR 1 sd (.pointer none)) 105))):=ak ⟨⟨hr,HS.out,B1.out.size⟩,B1.out.trans (ba.mono B1.out.size)⟩;exact ⟨w1.heap.size,rfl,HR.out⟩
theorem YQ:(Value.agg #[.int .u8 1,.int .u8 0,.int .u8 0,.int .u8 0,.int .u8 0,.int .u8 0,.int .u8 0,.int .u8 0,.int .u8 0,.int .u8 0,.int .u8 0,.int .u8 0,.int .u8 0,.int .u8 0,.int .u8 0,.int .u8 0,.int .u8 0,.int .u8 0,.int .u8 0,.int .u8 0,.int .u8 0,.int .u8 0,.int .u8 0,.int .u8 0,.int .u8 0,.int .u8 0,.int .u8 0,.int .u8 0,.int .u8 0,.int .u8 0,.int .u8 0,.int .u8 0])=.agg (arr .u8 32 fun i=> if i=0 then 1 else 0):=by rfl
theorem YO (w:World):Calls Tryz.prog 11 #[] w fun e w'=> e=.returned (.bool true)/\Below w.heap.size w w':=by
 go_enter Tryz.func11,Tryz.ntmps11
 go_wp2_with fail;refine (Gv w).mono ?_;rintro e w1 ⟨p,F,rfl,h1,b1⟩;have H1:=ak h1;have B1:=ak b1;clear h1 b1;go_wp2_with fail;refine (OL H1.out 3 (by decide)).mono ?_;rw [show vg ⟨[], []⟩ 3=(jM 0,0,TS.draw ⟨[], []⟩ 3) from rfl];rintro e w2 ⟨u,rfl,F2,h2,y2,c2,f2⟩;have Y2:=ak y2.rd;have B2:=ak (B1.out.trans (c2.below B1.out.size fun b hb=> H1.out.hi hb));obtain ⟨au,cu,eu,_⟩:=y2.rd;subst eu;clear h2 y2 c2 f2;go_wp2_with fail;rw [YQ];refine (wX (fun i=> if i=0 then 1 else 0) (fun i _=> by split<;> decide) w2).mono ?_;rintro e w3 ⟨p3,rfl,h3,b3⟩;have H3:=ak h3;have B3:=ak (B2.out.trans (b3.mono B2.out.size));have Y3:=ak (Y2.out.below b3);clear h3 b3;go_wp2_with fail;refine (OM (F:=fun _=> False) ⟨H3.out,fun _=> id⟩ 3 (by decide)).mono ?_;rintro e w4 ⟨u4,rfl,F4,h4,y4,c4,f4⟩;have Y4:=ak (Y3.out.chS c4 fun _ _ _=> id);have B4:=ak (B3.out.trans (c4.wN.below (B:=w.heap.size) B3.out.size fun b hb=> hb.elim (fun e=> e▸qw B2.out.size H3.out.hp) False.elim));obtain ⟨a4,d4,e4,_⟩:=y4.rd;have hl:(Su.draw (.by (fun i=> if i=0 then 1 else 0) 0) 3).1.length=32:=fK _ _;have he:(Su.draw (.by (fun i=> if i=0 then 1 else 0) 0) 3).2.1=0:=rfl;rw [hl] at e4;rw [he];subst e4;clear h4 y4 c4 f4 hl he;rw [lq];have HS:=ak (fun (w5:World) (hb:Below w4.heap.size w4 w5) (hl:eF (fun _=> False) w5 (.slice (some ⟨w4.heap.size,0,none⟩) 9 9) (jM 0))=> aaC _ _ 9 9 (bf (jM 0)) (bf (jM 0)) w5 (by have:=(Y4.out.below hb);rwa [lq] at this) (by have:=hl.rd;rwa [lq] at this));rw [show Nj 9 (bf (jM 0)) 9 (bf (jM 0))=true from by unfold Nj;rw [decide_eq_true rfl,zn];rfl] at HS;go_wp2_with fail;refine (HS.out _ ((bA _ _).alloc (aP _) _) (Ya 5 (fun _ h=> h.elim) 0 (.inl rfl))).mono ?_;rintro e w6 ⟨rfl,b6⟩;have B6:=ak ((B4.out.alloc B4.out.size _).trans (b6.mono (by rw [World.size_alloc];have:=B4.out.size;omega)));clear b6;go_wp2;go_ret;exact ⟨rfl,B6.out⟩
end Go.Proofs.YtpcjekgfnfjbpaaGreat
