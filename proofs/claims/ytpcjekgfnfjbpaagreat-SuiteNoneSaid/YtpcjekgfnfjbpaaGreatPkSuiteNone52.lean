/-
  Part 52 of SuiteNone. Conditions: named in each theorem.
-/
import Derived.Test.YtpcjekgfnfjbpaaGreatPkSuiteNone51
import Derived.Test.YtpcjekgfnfjbpaaGreatPkSuiteNone40
set_option linter.unusedVariables false
set_option linter.unusedSimpArgs false
set_option maxRecDepth 100000
set_option maxHeartbeats 3200000
namespace Go.Proofs.YtpcjekgfnfjbpaaGreat
open Go.RowKit Go.bI Go.ChangeShapes Go.Maps
attribute [local go_sem ↓] Go.wp_at_zero Go.wp_at_succ
theorem _root_.Go.bI.iH.setRow (F:Nat->Prop) (w:World) (g:Nat) (cs:Array Value) (hF:F g):iH F w (w.setRow g cs):=
 have h:=aA (bM 0 w) (je g) cs
 ⟨h.os,h.tape,h.output,h.size,fun b _ hn=> setRow_other w g b cs fun e=> hn (e▸hF)⟩
def Kr:ByteArray:=⟨#[100,114,97,119]⟩
def jw (sd:Nat->Int) (n:Nat):Nat->Int:=ES 32 sd (sP Kr.size (fun _=> 8) 1) (AL Kr.size (sN Kr) (fun _=> 8) (fun _=> wV n) 1)
theorem sH (sd:Nat->Int) (n i:Nat):0<=jw sd n i/\jw sd n i<256:=zO _ _ _ _ i
theorem Wt (v:Value) (sd:Nat->Int) (n:Nat) (hf:∀i,i<32->0<=sd i/\sd i<256) (vc:Value) (w:World) (h:Rd .u8 w v 32 sd) (hc:nH w vc 1 (fun _=> 8) (fun _=> wV n)):
  Calls Tryz.prog 120 #[v,.string Kr,vc] w fun e w'=> e=.returned (.tuple #[.agg (arr .u8 32 (jw sd n)),.int .i64 0])/\Below w.heap.size w w':=
 Kv v 32 sd Kr vc 1 (fun _=> 8) (fun _=> wV n) w h (by decide) (by decide) hf (by decide) hc (by decide) (fun j hj=> by decide) (fun j hj i hi=> Aj _ _)
section
variable {B : Nat} {w w' w1 w2 w3 : World} {p q : Nat} {F G G' : Nat -> Prop} {sd : Nat -> Int} {n : Nat} {v u : Value} {l : List Int}
structure Ce (B:Nat) (w:World) (p:Nat) (sd:Nat->Int) (n:Nat):Prop where
 r:kP w p 1 sd n (.pointer none)
 sdb:∀i,i<32->0<=sd i/\sd i<256
 hp:B<=p
theorem Ce.below (h:Ce B w p sd n) (hb:Below w.heap.size w w'):Ce B w' p sd n:=⟨h.r.below hb,h.sdb,h.hp⟩
theorem Ce.lt (h:Ce B w p sd n):p<w.heap.size:=h.r.row.lt
theorem Ce.keep {H:Nat->Prop} (h:Ce B w p sd n) (hc:iH H w w') (hF:¬ H p):Ce B w' p sd n:=⟨h.r.keep hc hF,h.sdb,h.hp⟩
theorem kP.next {kd m m':Int} {s:Value} (h:kP w p kd sd m s):kP (w.setCell ⟨p,33,none⟩ (.int .i64 m')) p kd sd m' s:=by
 refine ⟨h.row.setCell _ rfl _,?_,fun i hi=> ?_,?_,?_⟩
 ·rw [World.cell?_setCell_other _ _ _ _ (by intro e;cases e)];exact h.ck
 ·rw [World.cell?_setCell_other _ _ _ _ (by intro e;have:=congrArg Addr.off e;simp only at this;omega)];exact h.cs i hi
 ·exact World.cell?_setCell_same _ _ _ h.cn
 ·rw [World.cell?_setCell_other _ _ _ _ (by intro e;cases e)];exact h.cp
theorem Ce.next (h:Ce B w p sd n) {m:Nat}:Ce B (w.setCell ⟨p,33,none⟩ (.int .i64 (m:Int))) p sd m:=⟨h.r.next,h.sdb,h.hp⟩
theorem Ce.afu (h:Ce B w p sd n) (m:Int):uM p (fun _=> False) w (w.setCell ⟨p,33,none⟩ (.int .i64 m)):=
 ⟨.set _ _ _ _ (.inl rfl),fun b hb _ i x hx=> by
  rw [World.cell?_setCell_other _ _ _ _ (by intro e;cases e;rw [h.r.cn] at hx;cases hx)];exact hx⟩
theorem jT {f:Nat->Int} (h:Rd .u8 w v 32 f):Calls Tryz.prog 64 #[v] w fun e w'=> e=.returned (.tuple #[.agg (arr .u8 32 f),.int .i64 0])/\Below w.heap.size w w':=by
 obtain ⟨a,c,rfl,h1,h2,_,h4⟩:=h;obtain ⟨b,o,rfl,hlt,hc⟩:=h4 (by decide);have HC:=ak hc;have Hw:=ak hlt;clear h4 hc hlt
 go_enter Tryz.func64,Tryz.ntmps64
 go_upto_region 1 with (fail);refine aG (fun w1=> aH .u8 w1 w.heap.size 32 (fun _=> 0)/\Below w.heap.size w w1) ⟨bG rfl (by rfl),(bM _ _).alloc (bB _) _⟩ ?_;rintro w1 ⟨hZ,hbel⟩;have wM:Hid (∀i,i<32->w1.cell? ⟨b,o+i,none⟩=some (.int .u8 (f i))):=ak fun i hi=> (hbel.cell (p:=⟨b,o+i,none⟩) Hw.out).trans (HC.out i hi);have HZ:=ak hZ;have HB:=ak hbel;have ha:∀w,(Instr.arrayAt 22 (.slice (some ⟨b,o,none⟩) 32 c)).run Tryz.prog w=.ok (.pointer (some ⟨b,o,none⟩)) w:=fun w=> kI (P:=Tryz.prog) (T:=22) (a:=some ⟨b,o,none⟩) (len:=32) (cap:=c) (n:=32) dU (by decide) w;clear hZ hbel
 go_wp2_with (first
  | (refine oG rfl 22 _ rfl .u8 b o 32 f 5 dU dz rfl (fun i hi=> wM.out i hi) ?_)
  | (refine aF rfl 22 _ _ rfl .u8 w.heap.size 32 (fun _=> 0) f dz rfl rfl HZ.out ?_))
 exact bodyPost_ret (eY rfl _ _ .u8 w.heap.size 32 _ 5 rfl (HZ.out.setRow _ _) dU dz) rfl ⟨rfl,aA HB.out (bB _) _⟩
theorem mM {m:Nat} {f:Nat->Int} (h:Rd .u8 w v m f) (hm:m≠32):Calls Tryz.prog 64 #[v] w fun e w'=> e=.returned (.tuple #[.agg (arr .u8 32 (fun _=> 0)),.int .i64 11])/\Below w.heap.size w w':=by
 obtain ⟨a,c,rfl,h1,h2,_,h4⟩:=h;have hm':((m:Int) !=32)=true:=by simp;omega
 clear h4 hm
 go_enter Tryz.func64,Tryz.ntmps64
 go_upto_region 1 with (fail);refine aG (fun w1=> aH .u8 w1 w.heap.size 32 (fun _=> 0)/\Below w.heap.size w w1) ⟨bG rfl (by rfl),(bM _ _).alloc (bB _) _⟩ ?_;rintro w1 ⟨hZ,hbel⟩;have HZ:=ak hZ;have HB:=ak hbel;clear hZ hbel;go_wp2_with (refine aF rfl 22 _ _ rfl .u8 w.heap.size 32 (fun _=> 0) (fun _=> 0) dz rfl (by rfl) HZ.out ?_);exact bodyPost_ret (eY rfl _ _ .u8 w.heap.size 32 _ 5 rfl (HZ.out.setRow _ _) dU dz) rfl ⟨rfl,aA HB.out (bB _) _⟩
theorem qL (h:Ce B w p sd n) (hn:n<=100000):Calls Tryz.prog 66 #[.pointer (some ⟨p,0,none⟩)] w fun e w'=> e=.returned (.agg (arr .u8 32 (jw sd n)))/\Ce B w' p sd (n+1)/\uM p (fun _=> False) w w':=by
 have H:=ak h;have HN:=ak hn;have cn:=h.r.cn;have HPN:Hid (p<w.heap.size):=ak h.r.row.lt;clear h hn
 go_enter Tryz.func66,Tryz.ntmps66
 clear cn;go_upto_region 1 with (fail);refine aG (fun w1=> aH .u8 w1 w.heap.size 32 (fun _=> 0)/\Below w.heap.size w w1) ⟨bG rfl (by rfl),(bM _ _).alloc (bB _) _⟩ ?_;rintro w1 ⟨hZ,hbel⟩;have H1:=ak (H.out.below hbel);have cn:=H1.out.r.cn;have HZ:=ak hZ;have HB:=ak hbel;clear hZ hbel;go_wp2_with fail;refine (Mj (n:Int) 8 w1 (by decide) (by decide) (by omega) (by have:=HN.out;omega) (aK)).mono ?_;rintro e w2 ⟨u,rfl,hu,b2⟩;have HU:=ak hu.rd;obtain ⟨au,cu,rfl,_⟩:=hu.rd;have H2:=ak (H1.out.below b2);have HZ2:=ak (HZ.out.kept b2);have HB2:=ak (HB.out.trans (b2.mono HB.out.size));clear hu b2 cn;go_wp2_with fail;have BA:=(bM w2.heap.size w2).alloc (bB _) (.cells [Value.slice au 8 cu].toArray 23);refine (Wt _ sd n H2.out.sdb _ _ (H2.out.r.below BA).rd (new1 HU.out (bM _ _))).mono ?_;rintro e w3 ⟨rfl,b3⟩;have B3:=ak (BA.trans (b3.mono (by rw [World.size_alloc];omega)));have H3:=ak (H2.out.below B3.out);have HZ3:=ak (HZ2.out.kept B3.out);have HB3:=ak (HB2.out.trans (B3.out.mono HB2.out.size));clear b3 BA;obtain ⟨D,hD⟩:∃D,D=jw sd n:=⟨_,rfl⟩
 rw [<-hD];have HDD:=ak hD;clear hD;go_upto_region 3 with (refine aF rfl 22 _ _ rfl .u8 w3.heap.size 32 (fun _=> 0) D dz rfl rfl (bG rfl (by rfl)) ?_);refine aG (fun w4=> aH .u8 w4 w.heap.size 32 (fun _=> 0)/\aH .u8 w4 w3.heap.size 32 D/\Below w3.heap.size w3 w4) ⟨(HZ3.out.alloc _).aC _ (Nat.ne_of_lt HZ3.out.lt) _,(show aH .u8 (w3.alloc (.cells (arr .u8 32 (fun _=> 0)) 22)) w3.heap.size 32 (fun _=> 0) from bG rfl rfl).setRow 32 D,aA ((bM _ _).alloc (bB _) _) (bB _) _⟩ ?_;rintro w4 ⟨h4,h5,hbel⟩;have H4:=ak (H3.out.below hbel);have HB4:=ak (HB3.out.trans (hbel.mono HB3.out.size));have HZ4:=ak h4;have HD4:=ak h5;have ZU:Hid (p<w.heap.size/\w.heap.size<w3.heap.size):=ak ⟨HPN.out,HZ3.out.lt⟩;clear h4 h5 hbel;have cn:=H4.out.r.cn;have fr:=H4.out.r.row.free 33;have hnb:(n:Int)<1000000:=by have:=HN.out;omega
 go_upto_region 4 with (fail);have CS:=H4.out.afu ((n:Int)+1);refine aG (fun w5=> Ce B w5 p sd (n+1)/\aH .u8 w5 w.heap.size 32 (fun _=> 0)/\aH .u8 w5 w3.heap.size 32 D/\uM p (fun _=> False) w w5) ⟨H4.out.next (m:=n+1),HZ4.out.tT CS.tT (fun e=> e.elim (fun e=> by have:=ZU.out;omega) id),HD4.out.tT CS.tT (fun e=> e.elim (fun e=> by have:=ZU.out;omega) id),(uM.of_below HB4.out _).trans CS fun _ h=> h.elim⟩ ?_;rintro w5 ⟨h5,hz5,hd5,c5⟩;have H5:=ak h5;have HZ5:=ak hz5;have HD5:=ak hd5;have C5:=ak c5;clear h5 hz5 hd5 c5 CS cn fr hnb
 go_wp2_with (first
  | (refine aM rfl 22 _ rfl .u8 w3.heap.size 32 D 5 dU dz rfl HD5.out ?_)
  | (refine aF rfl 22 _ _ rfl .u8 w.heap.size 32 (fun _=> 0) D dz rfl rfl HZ5.out ?_))
 obtain rfl:=HDD.out;have CR:=iH.setRow (fun b=> b=w.heap.size) w5 w.heap.size (arr .u8 32 (jw sd n)) rfl;exact bodyPost_ret (aZ rfl _ _ .u8 w.heap.size 32 _ 5 rfl (HZ5.out.setRow _ _) dU dz) rfl ⟨rfl,H5.out.keep CR fun e=> by have:=ZU.out;omega,C5.out.trans (uM.Uv CR) fun b e=> .inr (by omega)⟩
end
inductive Su where
 | by (sd:Nat->Int) (n:Nat)
 | tm (S:TS)
def Su.size:Su->Nat
 | .by _ n=> n
 | .tm S=> S.l.length
abbrev UA:Type:=List Int × Int × Su
def uJ (B:Nat) (w:World) (p:Nat) (F:Nat->Prop):Su->Prop
 | .by sd n=> Ce B w p sd n/\∀b,¬ F b
 | .tm S=> sW B w p F S
section
variable {B : Nat} {w w' w1 w2 w3 : World} {p q : Nat} {F F' G G' : Nat -> Prop} {sd : Nat -> Int} {n : Nat} {v u v' : Value} {l l' : List Int} {X X' : Su} {S : TS}
theorem uJ.below (h:uJ B w p F X) (hb:Below w.heap.size w w'):uJ B w' p F X:=by
 cases X with
 | «by» sd n=> exact ⟨h.1.below hb,h.2⟩
 | tm S=> exact sW.below h hb
theorem sW.pLt (h:sW B w p F S):p<w.heap.size/\B<=p:=by obtain ⟨q,G,h,_⟩:=h;exact ⟨h.r.row.lt,h.hp⟩
theorem uJ.pLt (h:uJ B w p F X):p<w.heap.size/\B<=p:=by
 cases X with
 | «by» sd n=> exact ⟨h.1.lt,h.1.hp⟩
 | tm S=> exact sW.pLt h
theorem uJ.hi (h:uJ B w p F X) {b:Nat} (hb:b=p\/F b):B<=b:=by
 rcases hb with rfl | hb
 ·exact h.pLt.2
 ·cases X with
  | «by» sd n=> exact absurd hb (h.2 b)
  | tm S=> exact sW.hi h hb
def Lm (B:Nat) (w:World) (p:Nat) (F:Nat->Prop) (v:Value) (r:UA) (w':World):Prop:=∃F',uJ B w' p F' r.2.2/\eU F' w' v r.1/\uM p F w w'/\∀b,F' b->F b\/w.heap.size<=b
theorem zf.su {r:TA} (h:zf B w p F v r w'):Lm B w p F v (r.1,r.2.1,.tm r.2.2) w':=by
 obtain ⟨F',h1,h2,h3,h4⟩:=h;exact ⟨F',h1,h2,uM.Uv h3,h4⟩
theorem eU.any {f:Nat->Int} {m:Nat} (h:Rd .u8 w v m f) (hf:∀i,i<m->0<=f i/\f i<256) (hF:∀b,¬ F b):eU F w v (kM m f):=⟨pV hf,h.kM,fun _ b _=> hF b⟩
def JA (g:(Nat->Int)->Nat->Int) (sd:Nat->Int) (n:Nat) (l:List Int):UA:=if l.length=32 then (kM 32 (g (bf l)),0,.by sd n) else ([],11,.by sd n)
def Su.draw:Su->Int->UA
 | .by sd n,s=> if isSort s=true then (kM 32 (jw sd n),0,.by sd (n+1)) else ([],2,.by sd n)
 | .tm S,s=> ((vY S s).1,(vY S s).2.1,.tm (vY S s).2.2)
theorem rU (h:uJ B w p F (.by sd n)) (hb:Below w.heap.size w w') (er:Int):Lm B w p F (.slice none 0 0) ([],er,.by sd n) w':=
 ⟨F,⟨h.1.below hb,h.2⟩,eU.nil _ _,.of_below hb _,fun b hb=> .inl hb⟩
theorem zo {m k:Nat} {f:Nat->Int} (h:uJ B w p F (.by sd n)) (hs:Ce B w1 p sd k) (hc:uM p (fun _=> False) w w1) (hr:Rd .u8 w1 v m f) (hf:∀i,i<m->0<=f i/\f i<256) (er:Int):Lm B w p F v (kM m f,er,.by sd k) w1:=
 ⟨F,⟨hs,h.2⟩,eU.any hr hf h.2,⟨hc.tT.mono fun b _ hb=> hb.imp id fun h=> h.elim,fun b hb _=> hc.u8 b hb id⟩,fun b hb=> .inl hb⟩
theorem DC (h:uJ B w p F (.by sd n)) (s:Int) (hn:n<=900):Calls Tryz.prog 26 #[.pointer (some ⟨p,0,none⟩),.int .i64 s] w fun e w'=> ∃u,e=.returned (.tuple #[u,.int .i64 (Su.draw (.by sd n) s).2.1])/\Lm B w p F u (Su.draw (.by sd n) s) w':=by
 have HQ:=ak h;have HL:=ak hn;have HW:=ak (dP h.1.r);obtain ⟨R,hR⟩:∃x,x=Su.draw (.by sd n) s:=⟨_,rfl⟩
 rw [<-hR];have HR:=ak hR;have ck:=h.1.r.ck;clear hR h hn;by_cases hs:1<=s/\s<=4
 ·have HS:Hid (isSort s=true):=ak (by unfold isSort;rw [decide_eq_true hs.1,decide_eq_true hs.2];rfl);have HE:Hid (R=(kM 32 (jw sd n),0,.by sd (n+1))):=ak (by rw [HR.out];exact if_pos HS.out);have h1:decide (s<1)=false:=decide_eq_false (by omega);have h2:decide (4<s)=false:=decide_eq_false (by omega);clear hs
  go_enter Tryz.func26,Tryz.ntmps26
  go_wp2_with fail;refine HW.out.mono ?_;rintro e w1 ⟨rfl,rfl⟩;go_wp2_with fail;refine (qL HQ.out.1 (by have:=HL.out;omega)).mono ?_;rintro e w2 ⟨rfl,h2,c2⟩;have H2:=ak h2;have C2:=ak c2;clear h2 c2 ck;obtain ⟨D,hD⟩:∃D,D=jw sd n:=⟨_,rfl⟩
  rw [<-hD] at HE ⊢;have Xx:Hid (∀i,i<32->0<=D i/\D i<256):=ak fun i _=> hD▸sH sd n i;clear hD;go_upto_region 8 with (refine aF rfl 22 _ _ rfl .u8 w2.heap.size 32 (fun _=> 0) D dz rfl rfl (bG rfl (by rfl)) ?_);refine aG (fun w4=> aH .u8 w4 w2.heap.size 32 D/\Below w2.heap.size w2 w4) ⟨(show aH .u8 (w2.alloc (.cells (arr .u8 32 (fun _=> 0)) 22)) w2.heap.size 32 (fun _=> 0) from bG rfl rfl).setRow 32 D,aA ((bM _ _).alloc (bB _) _) (bB _) _⟩ ?_;rintro w4 ⟨h4,b4⟩;have HD:=ak (zo HQ.out (H2.out.below b4) (C2.out.trans (uM.of_below b4 (fun _=> False)) fun _ h=> .inl h) (h4.rd (by decide)) Xx.out 0);clear h4 b4;go_wp2;go_ret2;rw [HE.out];exact ⟨_,rfl,HD.out⟩
 ·have HE:Hid (R=([],2,.by sd n)):=ak (by
   rw [HR.out];refine if_neg fun h=> ?_;simp only [isSort,GZ,decide_eq_true_eq] at h;exact hs h)
  by_cases h1:s<1
  ·have h1':decide (s<1)=true:=decide_eq_true h1;clear hs h1
   go_enter Tryz.func26,Tryz.ntmps26
   go_wp2_with fail;refine HW.out.mono ?_;rintro e w1 ⟨rfl,rfl⟩;go_wp2;go_ret2;rw [HE.out];exact ⟨_,rfl,rU HQ.out (bM _ _) 2⟩
  ·have h1':decide (s<1)=false:=decide_eq_false h1;have h2':decide (4<s)=true:=decide_eq_true (by omega);clear hs h1
   go_enter Tryz.func26,Tryz.ntmps26
   go_wp2_with fail;refine HW.out.mono ?_;rintro e w1 ⟨rfl,rfl⟩;go_wp2;go_ret2;rw [HE.out];exact ⟨_,rfl,rU HQ.out (bM _ _) 2⟩
end
def CV (m:Nat) (f:Nat->Int):Nat->Int:=bf (kM m f)
theorem MH {m i:Nat} {f:Nat->Int} (h:i<m):CV m f i=f i:=om h
theorem Qr {m:Nat} {f g:Nat->Int} (h:∀i,i<m->f i=g i):CV m f=CV m g:=by unfold CV;rw [sF h]
theorem Pb (k:IntKind) (m:Nat) (f:Nat->Int):arr k m f=arr k m (CV m f):=eF fun i hi=> (MH hi).symm
def Ej (sd:Nat->Int) (n:Nat) (a b:List Int):UA:=if a.length=32 then (kM (12+(b.length+16)) (fH 12 (jw sd n) (ji (bf a) (CV 12 (jw sd n)) 0 (fun _=> 0) b.length (bf b))),0,.by sd (n+1)) else ([],11,.by sd n)
def nI (a c:List Int):List Int × Int:=
 if a.length=32 then
  if c.length<28 then ([],10)
  else if mV (bf a) (CV 12 (bf c)) 0 (fun _=> 0) (c.length - 28) (fun i=> bf c (12+i))=true then (kM (c.length - 28) (jQ (bf a) (CV 12 (bf c)) 1 (fun i=> bf c (12+i))),0) else ([],20)
 else ([],11)
theorem LH {F:Nat->Prop} {w w':World} {v:Value} {r:List Int × Int} (h:∃u,v=.tuple #[u,.int .i64 r.2] /\eU F w u r.1) (hb:Below w.heap.size w w'):∃u,v=.tuple #[u,.int .i64 r.2] /\eU F w' u r.1:=by
 obtain ⟨u,e,h⟩:=h;exact ⟨u,e,h.below hb⟩
section
variable {B : Nat} {w w' w1 w2 w3 : World} {p q : Nat} {F F' G G' : Nat -> Prop} {sd : Nat -> Int} {n : Nat} {v u v' : Value} {l l' : List Int} {X X' : Su} {S : TS}
theorem Iz (h:uJ B w p F (.by sd n)) (hb:eU F w v l) (hb':eU F w v' l') (hl':l'.length<=1000):Calls Tryz.prog 23 #[.pointer (some ⟨p,0,none⟩),v,v'] w fun e w'=> ∃u,e=.returned (.tuple #[u,.int .i64 (nI l l').2])/\eU F w' u (nI l l').1/\Below w.heap.size w w':=by
 have HQ:=ak h;have HW:=ak (dP h.1.r);have HNF:=ak h.2;obtain ⟨R,hR⟩:∃x,x=nI l l':=⟨_,rfl⟩
 rw [<-hR];have HR:=ak hR;by_cases hl:l.length=32
 ·have hr1:=hb.rd;rw [hl] at hr1;have HK:=ak (jT hr1);have uL:=ak hb.ok;have Dj:=ak hb'.ok;have HV:=ak hb'.rd;obtain ⟨N,hN⟩:∃N,N=l'.length:=⟨_,rfl⟩
  rw [<-hN] at HV hl';obtain ⟨av,cv,rfl,_⟩:=hb.rd;obtain ⟨Dc,cv',rfl,hc1,hc2,_,_⟩:=id HV.out;by_cases h12:N<12
  ·have HE:Hid (R=([],10)):=ak (by rw [HR.out];unfold nI;rw [if_pos hl,if_pos (by omega)]);have akc:(N:Int)<12:=by omega
   clear hR h hb hb' hl hN h12 hr1
   go_enter Tryz.func23,Tryz.ntmps23
   go_wp2_with fail;refine HW.out.mono ?_;rintro e w1 ⟨rfl,rfl⟩;go_wp2_with fail;refine HK.out.mono ?_;rintro e w2 ⟨rfl,b2⟩;have B2:=ak b2;clear b2;go_upto_region 4 with (refine aF rfl 22 _ _ rfl .u8 w2.heap.size 32 (fun _=> 0) (bf l) dz rfl rfl (bG rfl (by rfl)) ?_);refine aG (fun w3=> Below w1.heap.size w1 w3) (aA (B2.out.alloc B2.out.size _) B2.out.size _) ?_;rintro w3 b3;have B3:=ak b3;clear b3;go_wp2;go_ret2;rw [HE.out];exact ⟨_,rfl,eU.nil _ _,B3.out⟩
  ·have akc:¬ (N:Int)<12:=by omega
   obtain ⟨K,hK⟩:∃K,K=bf l:=⟨_,rfl⟩
   obtain ⟨C,hC⟩:∃C,C=bf l':=⟨_,rfl⟩
   have XF:Hid (∀i,i<32->0<=K i/\K i<256):=ak fun i hi=> hK▸uL.out.at i (by omega);have HCB:Hid (∀i,i<N->0<=C i/\C i<256):=ak fun i hi=> hC▸Dj.out.at i (by omega);have HR0:Hid (R=if N<28 then ([],10) else if mV K (CV 12 C) 0 (fun _=> 0) (N - 28) (fun i=> C (12+i))=true then (kM (N - 28) (jQ K (CV 12 C) 1 (fun i=> C (12+i))),0) else ([],20)):=ak (by rw [HR.out,hK,hC,hN];unfold nI;rw [if_pos hl]);rw [<-hK] at HK;rw [<-hC] at HV;have G1:=ak (Rd.head (P:=Tryz.prog) kN sV Dc N cv' 12 (by omega) hc1);obtain ⟨a2,g1,g2,g3⟩:=Rd.cut (P:=Tryz.prog) kN sV Dc N cv' 12 N (by omega) (bB _) hc1;have G2:=ak g2;have HRS:Hid (∀w,Rd .u8 w (.slice Dc N cv') N C->Rd .u8 w (.slice a2 (N - 12) (cv' - 12)) (N - 12) (fun i=> C (12+i))):=ak fun w h=> (g3 w C h).2;obtain ⟨b1,o1,q1,l1,c1⟩:=(G1.out.2 _ _ HV.out).Gs (by decide);subst q1;have wM:=ak c1;have HOP:Hid (∀w u,Rd .u8 w u (N - 12) (fun i=> C (12+i))->Calls Tryz.prog 78 #[.agg (arr .u8 32 K),.agg (arr .u8 12 C),.slice none 0 0,u] w fun e w'=> ∃x,e=.returned x/\(∃u,x=.tuple #[u,.int .i64 R.2] /\eU F w' u R.1)/\Below w.heap.size w w'):=ak fun w u hu=> by
    rw [Pb .u8 12 C];by_cases h28:N<28
    ·refine (KW K (CV 12 C) (.slice none 0 0) u 0 (N - 12) (fun _=> 0) _ w (Rd.nil _ _ _) hu (by decide) (by omega)).mono ?_;rintro e w' ⟨rfl,b⟩;rw [HR0.out,if_pos h28];exact ⟨_,rfl,⟨_,rfl,eU.nil _ _⟩,b⟩
    ·rw [show N - 12=(N - 28)+16 by omega] at hu;refine (EL K (CV 12 C) XF.out (fun i hi=> by rw [MH hi];exact HCB.out i (by omega)) (.slice none 0 0) u 0 (N - 28) (fun _=> 0) _ w (Rd.nil _ _ _) hu (fun i hi=> by omega) (fun i hi=> HCB.out _ (by omega)) (by decide) (by omega)).mono ?_;rintro e w' ⟨x,rfl,ho,b⟩;rw [HR0.out,if_neg h28]
     cases hok:mV K (CV 12 C) 0 (fun _=> 0) (N - 28) (fun i=> C (12+i)) with
     | false=>
      rw [hok] at ho;rw [if_neg (by decide)];exact ⟨_,rfl,⟨_,ho.2 rfl,eU.nil _ _⟩,b⟩
     | true=>
      rw [hok] at ho;obtain ⟨u',e',hr⟩:=ho.1 rfl;rw [if_pos rfl];exact ⟨_,rfl,⟨u',e',eU.any hr (fun i _=> pX _ _ _ _ i) HNF.out⟩,b⟩
   clear hR h hb hb' hl hN h12 hr1 HR HR0 hK hC g1 g2 g3 c1 XF HCB uL Dj hl'
   go_enter Tryz.func23,Tryz.ntmps23
   go_wp2_with fail;refine HW.out.mono ?_;rintro e w1 ⟨rfl,rfl⟩;go_wp2_with fail;refine HK.out.mono ?_;rintro e w2 ⟨rfl,b2⟩;have B2:=ak b2;clear b2;go_upto_region 4 with (refine aF rfl 22 _ _ rfl .u8 w2.heap.size 32 (fun _=> 0) K dz rfl rfl (bG rfl (by rfl)) ?_);refine aG (fun w3=> aH .u8 w3 w2.heap.size 32 K/\Below w1.heap.size w1 w3) ⟨(show aH .u8 (w2.alloc (.cells (arr .u8 32 (fun _=> 0)) 22)) w2.heap.size 32 (fun _=> 0) from bG rfl rfl).setRow 32 K,aA (B2.out.alloc B2.out.size _) B2.out.size _⟩ ?_;rintro w3 ⟨h8,hbel⟩;have l1':b1<w3.heap.size:=uK l1 hbel.size;have Xy:Hid (∀i,i<12->w3.cell? ⟨b1,o1+i,none⟩=some (.int .u8 (C i))):=fun i hi=> (hbel.cell (p:=⟨b1,o1+i,none⟩) l1).trans (wM.out i hi);have Xp:=ak (HV.out.below hbel);clear wM l1;go_upto_region 8 with (fail)
   refine aR (n:=81) (by kernel_rfl) (by kernel_rfl) (by kernel_rfl) rfl
    (fun ii vv ww=> (match ii with | 0=> vv=.agg (arr .u8 32 (K)) | 1 | 5=> vv=.slice (some ⟨b1,o1,none⟩) N cv' | 2=> vv=.slice (some ⟨b1,o1,none⟩) 12 cv' | 3=> vv=.pointer (some ⟨b1,o1,none⟩) | 4=> vv=.agg (arr .u8 12 (C)) | 6=> vv=.slice a2 (N - 12) (cv' - 12) | 9 | 11=> vv=.int .i64 (R.2) | _=> True)/\(ii=7->∃u,vv=.tuple #[u,.int .i64 R.2] /\eU F ww u R.1)/\(ii=8->eU F ww vv R.1)/\(ii=10->eU F ww vv R.1))
    (fun w w'=> Below w.heap.size w w') (fun _ _ h=> h) (fun i v w w' h hE=> ⟨h.1,fun e=> LH (h.2.1 e) hE,fun e=> eU.below (h.2.2.1 e) hE,fun e=> eU.below (h.2.2.2 e) hE⟩) ?_ ?_
   ·refine bQ ?_;refine ⟨?_,?_,?_,?_,?_,?_,?_,?_,?_,?_,?_,?_,trivial⟩
    ·intro a w2 hB hF hd;exact aJ <| aO (aB rfl dU rfl dz (hF.same 8 rfl) (h8.below hB h8.lt)) ⟨rfl,aK,aK,aK⟩
    ·intro a w2 hB hF hd;exact aJ <| fq rfl ⟨(hF.same 2 rfl),aK,aK,aK⟩
    ·intro a w2 hB hF hd;exact aJ <| aO (bP rfl ((hd 1 _ rfl (aj rfl)).1) (by simp only [Option.map_some,Option.map_none];exact G1.out.1 _)) ⟨rfl,aK,aK,aK⟩
    ·intro a w2 hB hF hd;exact aJ <| aO (gF rfl ((hd 2 _ rfl (aj rfl)).1) Tryz.underlying35 (by decide)) ⟨rfl,aK,aK,aK⟩
    ·intro a w2 hB hF hd;exact aJ <| aO (fD rfl ((hd 3 _ rfl (aj rfl)).1) Tryz.underlying35 Tryz.size35 (fun i hi=> (hB.cell (p:=⟨b1,o1+i,none⟩) l1').trans (Xy.out i hi))) ⟨rfl,aK,aK,aK⟩
    ·intro a w2 hB hF hd;exact aJ <| fq rfl ⟨(hF.same 2 rfl),aK,aK,aK⟩
    ·intro a w2 hB hF hd;exact aJ <| aO (bP rfl ((hd 5 _ rfl (aj rfl)).1) (by simp only [Option.map_some,Option.map_none];exact G2.out _)) ⟨rfl,aK,aK,aK⟩
    ·intro a w2 hB hF hd;refine aJ <| aD _ _ _ rfl Tryz.call78 _ (tX ((hd 0 _ rfl (aj rfl)).1) ((hd 4 _ rfl (aj rfl)).1) rfl ((hd 6 _ rfl (aj rfl)).1)) (by simp) ((HOP.out w2 _ (HRS.out _ (Xp.out.below hB))).mono ?_);rintro e w3 ⟨u,rfl,hr,hb⟩;exact ⟨u,rfl,⟨trivial,fun _=> hr,aK,aK⟩,hb⟩
    ·intro a w2 hB hF hd;rw [if_pos (dD rfl)];obtain ⟨u_,Gx,OE⟩:=((hd 7 _ rfl (aj rfl)).2.1 rfl)
     exact aO (bD rfl Gx rfl) ⟨trivial,aK,fun _=> (OE),aK⟩
    ·intro a w2 hB hF hd;rw [if_pos (dD rfl)];obtain ⟨u_,Gx,OE⟩:=((hd 7 _ rfl (aj rfl)).2.1 rfl)
     exact aO (bD rfl Gx rfl) ⟨rfl,aK,aK,aK⟩
    ·intro a w2 hB hF hd;exact aJ <| pE rfl ⟨trivial,aK,aK,fun _=> ((hd 8 _ rfl (aj rfl)).2.2.1 rfl)⟩
    ·intro a w2 hB hF hd;exact aJ <| pE rfl ⟨((hd 9 _ rfl (aj rfl)).1),aK,aK,aK⟩
   ·intro a w4 hB hF hS;obtain ⟨x40,acv⟩:∃x,x=a.tmps.getD 40 undef:=⟨_,rfl⟩
    have P40:∃u,x40=.tuple #[u,.int .i64 R.2] /\eU F w4 u R.1:=by rw [acv];exact (hS 7 _ rfl).2.1 rfl
    obtain ⟨x41,Gm⟩:∃x,x=a.tmps.getD 41 undef:=⟨_,rfl⟩
    have P41:eU F w4 x41 R.1:=by rw [Gm];exact (hS 8 _ rfl).2.2.1 rfl
    obtain ⟨x6,hx6⟩:∃x,x=a.tmps.getD 6 undef:=⟨_,rfl⟩
    have P6:eU F w4 x6 R.1:=by rw [hx6];exact (hS 10 _ rfl).2.2.2 rfl
    have ha:=aI rfl rfl hF [_,_,_,_,_,_,_,x40,x41,_,x6,_] rfl ⟨(hS 0 _ rfl).1,(hS 1 _ rfl).1,(hS 2 _ rfl).1,(hS 3 _ rfl).1,(hS 4 _ rfl).1,(hS 5 _ rfl).1,(hS 6 _ rfl).1,acv.symm,Gm.symm,(hS 9 _ rfl).1,hx6.symm,(hS 11 _ rfl).1,trivial⟩;simp only [puts,Act.put,dH,dI,dJ] at ha;subst ha;clear acv Gm hx6;clear hS hF;have hb4:=ak (hbel.trans (hB.mono hbel.size));have HP:=ak P6;clear P6 P40 P41 h8 hbel hB l1' Xy;go_wp2;go_ret2;exact ⟨_,rfl,HP.out,hb4.out⟩
 ·have HK:=ak (mM hb.rd hl);have HE:Hid (R=([],11)):=ak (by rw [HR.out];exact if_neg hl);obtain ⟨av,cv,rfl,_⟩:=hb.rd;obtain ⟨Dc,cv',rfl,_⟩:=hb'.rd;clear hR h hb hb' hl
  go_enter Tryz.func23,Tryz.ntmps23
  go_wp2_with fail;refine HW.out.mono ?_;rintro e w1 ⟨rfl,rfl⟩;go_wp2_with fail;refine HK.out.mono ?_;rintro e w2 ⟨rfl,b2⟩;have B2:=ak b2;clear b2;go_upto_region 4 with (refine aF rfl 22 _ _ rfl .u8 w2.heap.size 32 (fun _=> 0) (fun _=> 0) dz rfl rfl (bG rfl (by rfl)) ?_);refine aG (fun w3=> Below w1.heap.size w1 w3) (aA (B2.out.alloc B2.out.size _) B2.out.size _) ?_;rintro w3 b3;have B3:=ak b3;clear b3;go_wp2;go_ret2;rw [HE.out];exact ⟨_,rfl,eU.nil _ _,B3.out⟩
theorem PD (h:uJ B w p F (.by sd n)) (hb:eU F w v l) (hb':eU F w v' l') (hn:n<=900) (hl':l'.length<=1000):Calls Tryz.prog 16 #[.pointer (some ⟨p,0,none⟩),v,v'] w fun e w'=> ∃u,e=.returned (.tuple #[u,.int .i64 (Ej sd n l l').2.1])/\Lm B w p F u (Ej sd n l l') w':=by
 have HQ:=ak h;have HW:=ak (dP h.1.r);obtain ⟨R,hR⟩:∃x,x=Ej sd n l l':=⟨_,rfl⟩
 rw [<-hR];have HR:=ak hR;by_cases hl:l.length=32
 ·have hr1:=hb.rd;rw [hl] at hr1;have HK:=ak (jT hr1);obtain ⟨D,hD⟩:∃D,D=jw sd n:=⟨_,rfl⟩
  obtain ⟨K,hK⟩:∃K,K=bf l:=⟨_,rfl⟩
  obtain ⟨N,hN⟩:∃N,N=l'.length:=⟨_,rfl⟩
  obtain ⟨SF,Sk⟩:∃SF,SF=ji K (CV 12 D) 0 (fun _=> 0) N (bf l'):=⟨_,rfl⟩
  have HE:Hid (R=(kM (12+(N+16)) (fH 12 D SF),0,.by sd (n+1))):=ak (by rw [HR.out,Sk,hK,hD,hN];exact if_pos hl);have XF:Hid (∀i,i<32->0<=K i/\K i<256):=ak fun i hi=> hK▸hb.ok.at i (by omega);have Xx:Hid (∀i,i<32->0<=D i/\D i<256):=ak fun i hi=> hD▸sH sd n i;have BN:Hid (∀i,0<=SF i/\SF i<256):=ak fun i=> Sk▸qO _ _ _ _ _ _ i;have HV:=ak hb'.rd;have HDR:=ak (fun w h=> qL (w:=w) (B:=B) (p:=p) (sd:=sd) (n:=n) h (by omega));have HSL:Hid (∀w x,Rd .u8 w x N (bf l')->Calls Tryz.prog 70 #[.agg (arr .u8 32 K),.agg (arr .u8 12 D),.slice none 0 0,x] w fun e w'=> ∃u,e=.returned u/\ql w' u (N+16) SF/\Below w.heap.size w w'):=ak fun w x hx=> by
   rw [Pb .u8 12 D];refine (EK K (CV 12 D) XF.out (fun i hi=> by rw [MH hi];exact Xx.out i (by omega)) (.slice none 0 0) x 0 N (fun _=> 0) _ w (Rd.nil _ _ _) hx (fun i hi=> by omega) (by decide) (by omega)).mono ?_;rintro e w' ⟨u,rfl,ho,b⟩;rw [<-Sk] at ho;exact ⟨_,rfl,⟨u,rfl,ho.rd⟩,b⟩
  rw [<-hK] at HK;rw [<-hD] at HDR;rw [<-hN] at HV hl';have HNL:=ak hl';obtain ⟨av,cv,rfl,_⟩:=hb.rd;obtain ⟨Dc,cv',rfl,_⟩:=HV.out;clear hR h hb hb' hl hr1 hK hD hN Sk HR hl' hn
  go_enter Tryz.func16,Tryz.ntmps16
  go_wp2_with fail;refine HW.out.mono ?_;rintro e w1 ⟨rfl,rfl⟩;go_wp2_with fail;refine HK.out.mono ?_;rintro e w2 ⟨rfl,b2⟩;have B2:=ak b2;clear b2;go_upto_region 4 with (refine aF rfl 22 _ _ rfl .u8 w2.heap.size 32 (fun _=> 0) K dz rfl rfl (bG rfl (by rfl)) ?_);refine aG (fun w3=> aH .u8 w3 w2.heap.size 32 K/\Below w1.heap.size w1 w3) ⟨(show aH .u8 (w2.alloc (.cells (arr .u8 32 (fun _=> 0)) 22)) w2.heap.size 32 (fun _=> 0) from bG rfl rfl).setRow 32 K,aA (B2.out.alloc B2.out.size _) B2.out.size _⟩ ?_;rintro w3 ⟨h8,b3⟩;have H8:=ak h8;have B3:=ak b3;have HP2:Hid (p<w2.heap.size):=ak (uK HQ.out.1.lt B2.out.size);clear h8 b3;go_wp2_with fail;refine (HDR.out _ (HQ.out.1.below B3.out)).mono ?_;rintro e w4 ⟨rfl,h4,c4⟩;have H4:=ak h4;have C4:=ak ((uM.of_below B3.out (fun _=> False)).trans c4 fun _ h=> .inl h);have H84:Hid (aH .u8 w4 w2.heap.size 32 K):=ak (H8.out.tT c4.tT fun e=> e.elim (fun e=> by have:=HP2.out;omega) id);have HV4:Hid (Rd .u8 w4 (.slice Dc N cv') N (bf l')):=ak (HV.out.chS C4.out fun _ _ _=> id);have HL2:Hid (w2.heap.size<w4.heap.size):=ak H84.out.lt;clear h4 c4;go_upto_region 7 with (refine aF rfl 22 _ _ rfl .u8 w4.heap.size 32 (fun _=> 0) D dz rfl rfl (bG rfl (by rfl)) ?_);refine aG (fun w5=> aH .u8 w5 w4.heap.size 32 D/\Below w4.heap.size w4 w5) ⟨(show aH .u8 (w4.alloc (.cells (arr .u8 32 (fun _=> 0)) 22)) w4.heap.size 32 (fun _=> 0) from bG rfl rfl).setRow 32 D,aA ((bM _ _).alloc (bB _) _) (bB _) _⟩ ?_;rintro w5 ⟨h10,b5⟩;have h8:=H84.out.kept b5;have HV5:=ak (HV4.out.below b5);have H5:=ak (H4.out.below b5);have C5:=ak (C4.out.trans (uM.of_below b5 (fun _=> False)) fun _ h=> .inl h);obtain ⟨q,hq⟩:∃q,q=w4.heap.size:=⟨_,rfl⟩
  rw [<-hq] at h10 ⊢;obtain ⟨r,hr⟩:∃r,r=w2.heap.size:=⟨_,rfl⟩
  rw [<-hr] at h8 ⊢;have Vq:=h10.lt;have ahJ:Hid (∀i,i<12->w5.cell? ⟨q,0+i,none⟩=some (.int .u8 (D i))):=ak fun i hi=> by rw [pF,h10.cell i (by omega)]
  clear hq hr b5
  refine aR (n:=49) (by kernel_rfl) (by kernel_rfl) (by kernel_rfl) rfl
   (fun ii vv ww=> (match ii with | 0=> vv=.agg (arr .u8 32 (K)) | 1=> vv=.slice (some ⟨q,0,none⟩) 12 32 | 2=> vv=.pointer (some ⟨q,0,none⟩) | 3=> vv=.agg (arr .u8 12 (D)) | 4=> vv=.slice Dc N cv' | 8 | 10=> vv=.int .i64 (0) | _=> True)/\(ii=5->ql ww vv (N+16) SF)/\(ii=6->ql ww vv (N+16) SF)/\(ii=7->Rd .u8 ww vv (N+16) (SF))/\(ii=9->Rd .u8 ww vv (N+16) (SF)))
   (fun w w'=> Below w.heap.size w w') (fun _ _ h=> h) (fun i v w w' h hE=> ⟨h.1,fun e=> ql.below (h.2.1 e) hE,fun e=> ql.below (h.2.2.1 e) hE,fun e=> Rd.below (h.2.2.2.1 e) hE,fun e=> Rd.below (h.2.2.2.2 e) hE⟩) ?_ ?_
  ·refine bQ ?_;refine ⟨?_,?_,?_,?_,?_,?_,?_,?_,?_,?_,?_,trivial⟩
   ·intro a w2 hB hF hd;exact aJ <| aO (aB rfl dU rfl dz (hF.same 8 rfl) (h8.below hB h8.lt)) ⟨rfl,aK,aK,aK,aK⟩
   ·intro a w2 hB hF hd;exact aJ <| aO (bP rfl (hF.same 10 rfl) (by simp only [Option.map_some,Option.map_none];exact gW (m:=12) dU Ll (by decide))) ⟨rfl,aK,aK,aK,aK⟩
   ·intro a w2 hB hF hd;exact aJ <| aO (gF rfl ((hd 1 _ rfl (aj rfl)).1) Tryz.underlying35 (by decide)) ⟨rfl,aK,aK,aK,aK⟩
   ·intro a w2 hB hF hd;exact aJ <| aO (fD rfl ((hd 2 _ rfl (aj rfl)).1) Tryz.underlying35 Tryz.size35 (fun i hi=> (hB.cell (p:=⟨q,0+i,none⟩) Vq).trans (ahJ.out i hi))) ⟨rfl,aK,aK,aK,aK⟩
   ·intro a w2 hB hF hd;exact aJ <| fq rfl ⟨(hF.same 2 rfl),aK,aK,aK,aK⟩
   ·intro a w2 hB hF hd;refine aJ <| aD _ _ _ rfl Tryz.call70 _ (tX ((hd 0 _ rfl (aj rfl)).1) ((hd 3 _ rfl (aj rfl)).1) rfl ((hd 4 _ rfl (aj rfl)).1)) (by simp) ((HSL.out w2 _ (HV5.out.below hB)).mono ?_);rintro e w3 ⟨u,rfl,hr,hb⟩;exact ⟨u,rfl,⟨trivial,fun _=> hr,aK,aK,aK⟩,hb⟩
   ·intro a w2 hB hF hd;exact aJ <| fq rfl ⟨trivial,aK,fun _=> ((hd 5 _ rfl (aj rfl)).2.1 rfl),aK,aK⟩
   ·intro a w2 hB hF hd;rw [if_pos (dD rfl)];obtain ⟨u_,Gx,OE⟩:=((hd 6 _ rfl (aj rfl)).2.2.1 rfl)
    exact aO (bD rfl Gx rfl) ⟨trivial,aK,aK,fun _=> (OE),aK⟩
   ·intro a w2 hB hF hd;rw [if_pos (dD rfl)];obtain ⟨u_,Gx,OE⟩:=((hd 6 _ rfl (aj rfl)).2.2.1 rfl)
    exact aO (bD rfl Gx rfl) ⟨rfl,aK,aK,aK,aK⟩
   ·intro a w2 hB hF hd;exact aJ <| pE rfl ⟨trivial,aK,aK,aK,fun _=> ((hd 7 _ rfl (aj rfl)).2.2.2.1 rfl)⟩
   ·intro a w2 hB hF hd;exact aJ <| pE rfl ⟨((hd 8 _ rfl (aj rfl)).1),aK,aK,aK,aK⟩
  ·intro a w6 hB hF hS;obtain ⟨x32,hx32⟩:∃x,x=a.tmps.getD 32 undef:=⟨_,rfl⟩
   have P32:ql w6 x32 (N+16) SF:=by rw [hx32];exact (hS 5 _ rfl).2.1 rfl
   obtain ⟨x26,MS⟩:∃x,x=a.tmps.getD 26 undef:=⟨_,rfl⟩
   have P26:ql w6 x26 (N+16) SF:=by rw [MS];exact (hS 6 _ rfl).2.2.1 rfl
   obtain ⟨x33,acy⟩:∃x,x=a.tmps.getD 33 undef:=⟨_,rfl⟩
   have P33:Rd .u8 w6 x33 (N+16) (SF):=by rw [acy];exact (hS 7 _ rfl).2.2.2.1 rfl
   obtain ⟨x11,acC⟩:∃x,x=a.tmps.getD 11 undef:=⟨_,rfl⟩
   have P11:Rd .u8 w6 x11 (N+16) (SF):=by rw [acC];exact (hS 9 _ rfl).2.2.2.2 rfl
   have ha:=aI rfl rfl hF [_,_,_,_,_,x32,x26,x33,_,x11,_] rfl ⟨(hS 0 _ rfl).1,(hS 1 _ rfl).1,(hS 2 _ rfl).1,(hS 3 _ rfl).1,(hS 4 _ rfl).1,hx32.symm,MS.symm,acy.symm,(hS 8 _ rfl).1,acC.symm,(hS 10 _ rfl).1,trivial⟩;simp only [puts,Act.put,dH,dI,dJ] at ha;subst ha;clear hx32 MS acy acC;clear hS hF;have HR6:=ak P11;have H6:=ak (H5.out.below hB);have C6:=ak (C5.out.trans (uM.of_below hB (fun _=> False)) fun _ h=> .inl h);have hq6:∀i,i<12->w6.cell? ⟨q,0+i,none⟩=some (.int .u8 (fH 12 D SF i)):=fun i hi=> by rw [sM hi];exact (hB.cell (p:=⟨q,0+i,none⟩) Vq).trans (ahJ.out i hi)
   have HQ6:=ak hq6;obtain ⟨ax,cx,ex,_⟩:=id HR6.out;subst ex;have HNB:Hid (0<N+16):=ak (by omega);have HNC:Hid ((12+(N+16)) * 1<=140737488355328):=ak (by have:=HNL.out;omega);clear P11 P26 P32 P33 h8 h10 hB Vq hq6;go_wp2_with (at_builtin;refine yK rfl _ _ 23 rfl 5 .u8 1 kN sV q 0 12 (fH 12 D SF) HQ6.out rfl _ (N+16) SF HR6.out rfl HNB.out (fun i _=> nV _) HNC.out (by have:=HNC.out;omega) ?_;intro v7 w7 hr7 b7);have HD:=ak (zo HQ.out (H6.out.below b7) (C6.out.trans (uM.of_below b7 (fun _=> False)) fun _ h=> .inl h) hr7 (gy (fun i hi=> Xx.out i (by omega)) fun i _=> BN.out i) 0);clear hr7 b7;go_wp2;go_ret2;rw [HE.out];exact ⟨_,rfl,HD.out⟩
 ·have HK:=ak (mM hb.rd hl);have HE:Hid (R=([],11,.by sd n)):=ak (by rw [HR.out];exact if_neg hl);obtain ⟨av,cv,rfl,_⟩:=hb.rd;obtain ⟨Dc,cv',rfl,_⟩:=hb'.rd;clear hR h hb hb' hl
  go_enter Tryz.func16,Tryz.ntmps16
  go_wp2_with fail;refine HW.out.mono ?_;rintro e w1 ⟨rfl,rfl⟩;go_wp2_with fail;refine HK.out.mono ?_;rintro e w2 ⟨rfl,b2⟩;have B2:=ak b2;clear b2;go_upto_region 4 with (refine aF rfl 22 _ _ rfl .u8 w2.heap.size 32 (fun _=> 0) (fun _=> 0) dz rfl rfl (bG rfl (by rfl)) ?_);refine aG (fun w3=> Below w1.heap.size w1 w3) (aA (B2.out.alloc B2.out.size _) B2.out.size _) ?_;rintro w3 b3;have HD:=ak (rU HQ.out b3 11);clear b3;go_wp2;go_ret2;rw [HE.out];exact ⟨_,rfl,HD.out⟩
end
def Su.lock:Su->List Int->List Int->UA
 | .by sd n,a,b=> Ej sd n a b
 | .tm S,a,b=> ((lX 5 S a b).1,(lX 5 S a b).2.1,.tm (lX 5 S a b).2.2)
def Su.unlock:Su->List Int->List Int->List Int × Int
 | .by _ _,a,c=> nI a c
 | .tm S,a,c=> lW S a c
section
variable {B : Nat} {w w' w1 w2 w3 : World} {p q : Nat} {F F' G G' : Nat -> Prop} {sd : Nat -> Int} {n : Nat} {v u v' : Value} {l l' : List Int} {X X' X'' : Su} {S S' : TS}
theorem pO (h:uJ B w p F X) (s:Int) (hn:X.size<=900):Calls Tryz.prog 26 #[.pointer (some ⟨p,0,none⟩),.int .i64 s] w fun e w'=> ∃u,e=.returned (.tuple #[u,.int .i64 (X.draw s).2.1])/\Lm B w p F u (X.draw s) w':=by
 cases X with
 | «by» sd n=> exact DC h s hn
 | tm S=> exact (Dz h s hn).mono fun e w' ⟨u,h1,h2⟩=> ⟨u,h1,h2.su⟩
theorem zV (h:uJ B w p F X) (hb:eU F w v l) (hb':eU F w v' l') (hn:X.size<=900) (hl':l'.length<=1000):Calls Tryz.prog 16 #[.pointer (some ⟨p,0,none⟩),v,v'] w fun e w'=> ∃u,e=.returned (.tuple #[u,.int .i64 (X.lock l l').2.1])/\Lm B w p F u (X.lock l l') w':=by
 cases X with
 | «by» sd n=> exact PD h hb hb' hn hl'
 | tm S=> exact (Pz h hb hb' hn).mono fun e w' ⟨u,h1,h2⟩=> ⟨u,h1,h2.su⟩
theorem uZ (h:uJ B w p F X) (hb:eU F w v l) (hb':eU F w v' l') (hn:X.size<=900) (hl':l'.length<=1000):Calls Tryz.prog 23 #[.pointer (some ⟨p,0,none⟩),v,v'] w fun e w'=> ∃u,e=.returned (.tuple #[u,.int .i64 (X.unlock l l').2])/\eU F w' u (X.unlock l l').1/\Below w.heap.size w w':=by
 cases X with
 | «by» sd n=> exact Iz h hb hb' hl'
 | tm S=> exact Iy h hb hb' (jG hn (by decide))
def Su.le:Su->Su->Prop
 | .by sd _,.by sd' _=> sd=sd'
 | .tm S,.tm S'=> S.l <+:S'.l/\S.tx <+:S'.tx
 | _,_=> False
def Su.ok:Su->Prop
 | .by _ _=> True
 | .tm S=> S.Ok
def Su.val:Su->List Int->Prop
 | .by _ _,l=> l.length=32
 | .tm S,l=> ∃n:Nat,n<S.l.length/\l=fI n
def Su.lk:Su->List Int->List Int->List Int->Prop
 | .by _ _,a,b,c=> a.length=32/\okB b/\∃D:Nat->Int,(∀i,i<12->0<=D i/\D i<256)/\c=kM (12+(b.length+16)) (fH 12 D (ji (bf a) (CV 12 D) 0 (fun _=> 0) b.length (bf b)))
 | .tm S,a,b,c=> ∃n m k:Nat,a=fI n/\b=fI m/\c=fI k/\n<S.l.length/\m<S.l.length/\S.l[k]? =some (5,(n:Int),(m:Int))
theorem Yn (h:S.Ok) {t:Tm} (ht:lG S t=true):∃k:Nat,(lY S t).1=k/\(S.put t).l[k]? =some t/\k<(S.put t).l.length:=by
 unfold lY TS.put;rw [if_pos ht];by_cases hin:t ∈ S.l
 ·rw [if_pos hin,if_neg (fun h=> h.2 hin)];exact ⟨BS S.l t,rfl,rY hin,qW hin⟩
 ·rw [if_neg hin,if_pos ⟨ht,hin⟩];refine ⟨S.l.length,rfl,?_,by rw [GY];omega⟩;show (S.l++ [t])[S.l.length]? =some t;rw [He (bB _),Nat.sub_self]
  rfl
theorem Mk (t:Tm):S.l <+:(S.put t).l/\S.tx <+:(S.put t).tx:=by
 unfold TS.put
 split
 ·exact ⟨List.prefix_append _ _,List.prefix_refl _⟩
 ·exact ⟨List.prefix_refl _,List.prefix_refl _⟩
theorem Su.YW (ho:X.ok) (hn:X.size<=900) (hv:X.val l) (hv':X.val l') (hb':okB l'):∃c X',X.lock l l'=(c,0,X')/\X.le X'/\X'.lk l l' c/\c.length<=100/\c≠ [] /\X'.size<=X.size+1:=by
 cases X with
 | «by» sd n=>
  have h32:l'.length=32:=hv';refine ⟨_,.by sd (n+1),if_pos hv,rfl,⟨hv,hb',jw sd n,fun i _=> sH sd n i,rfl⟩,by rw [dW];omega,fun e=> ?_,bB _⟩;have:=congrArg List.length e;rw [dW] at this;simp at this
 | tm S=>
  obtain ⟨n,hn1,rfl⟩:=hv;obtain ⟨m,hm1,rfl⟩:=hv';have hn':S.l.length<=900:=hn;have e:lX 5 S (fI n) (fI m)=(fI (lY S (5,n,m)).1,0,S.put (5,n,m)):=by
   unfold lX;rw [rZ hn1 (by omega),rZ hm1 (by omega)];exact if_neg (fun h=> absurd h.1 (by decide))
  obtain ⟨k,h1,h2,h3⟩:=Yn ho (UJ (k:=5) (.inr rfl) hn1 hm1);refine ⟨fI (k:Int),.tm (S.put (5,n,m)),?_,Mk _,⟨n,m,k,rfl,rfl,rfl,uK hn1 (Mk _).1.length_le,uK hm1 (Mk _).1.length_le,h2⟩,by rw [iI];decide,fun e=> ?_,(Ym S _).1⟩
  ·show ((lX 5 S (fI n) (fI m)).1,(lX 5 S (fI n) (fI m)).2.1,Su.tm (lX 5 S (fI n) (fI m)).2.2)= _;rw [e,h1]
  ·have:=congrArg List.length e;rw [iI] at this;simp at this
theorem yx {key nonce:Nat->Int} {nb n:Nat} {fb f g:Nat->Int} (h:∀i,i<n+16->f i=g i):mV key nonce nb fb n f=mV key nonce nb fb n g:=by
 unfold mV;rw [BF (fun _ _=> rfl) fun i hi=> h i (by omega)];unfold jk;refine decide_eq_decide.2 ⟨fun h1 i hi=> ?_,fun h1 i hi=> ?_⟩
 ·exact (h1 i hi).trans (h (n+i) (by omega))
 ·exact (h1 i hi).trans (h (n+i) (by omega)).symm
theorem Su.Ph {a b c:List Int} (hn:X.size<=900) (h:X.lk a b c):X.unlock a c=(b,0):=by
 cases X with
 | «by» sd n=>
  obtain ⟨ha,hb,D,hD,rfl⟩:=h;show nI a _=(b,0);unfold nI;rw [if_pos ha,dW,if_neg (by omega)];obtain ⟨N,hN⟩:∃N,N=b.length:=⟨_,rfl⟩
  rw [<-hN,show 12+(N+16) - 28=N by omega];obtain ⟨SF,Sk⟩:∃SF,SF=ji (bf a) (CV 12 D) 0 (fun _=> 0) N (bf b):=⟨_,rfl⟩
  rw [<-Sk];have e1:CV 12 (bf (kM (12+(N+16)) (fH 12 D SF)))=CV 12 D:=Qr fun i hi=> by rw [om (by omega),sM hi]
  have e2:∀i,i<N+16->bf (kM (12+(N+16)) (fH 12 D SF)) (12+i)=SF i:=fun i hi=> by rw [om (by omega),nV]
  rw [e1,yx e2,Sk,Aq,if_pos rfl,←Sk];have e3:kM N (jQ (bf a) (CV 12 D) 1 (fun i=> bf (kM (12+(N+16)) (fH 12 D SF)) (12+i)))=b:=by
   rw [<-FZ b,←hN];refine sF fun i hi=> ?_;have:=DX (key:=bf a) (nonce:=CV 12 D) (nb:=0) (fb:=fun _=> 0) (n:=N) (f:=bf b) (fun i hi=> hb.at i (by omega)) i hi;rw [<-Sk] at this;rw [<-this];show xo _ (bf (kM (12+(N+16)) (fH 12 D SF)) (12+i))=xo _ (SF i);rw [e2 i (by omega)]
  rw [e3]
 | tm S=>
  obtain ⟨n,m,k,rfl,rfl,rfl,h1,h2,h3⟩:=h;have hn':S.l.length<=900:=hn;have hk:=(List.getElem?_eq_some_iff.1 h3).1;show lW S _ _= _;unfold lW;rw [rZ h1 (by omega),rZ hk (by omega)];simp only [BU,zl h3];rw [if_pos (by simp)]
end
def yO (kd:Int) (sd:Nat->Int) (s:Value):Array Value:=(.int .i64 kd::(vals .u8 32 sd++ [.int .i64 0,s])).toArray
theorem abB (kd:Int) (sd:Nat->Int) (s:Value):(yO kd sd s)[0]? =some (.int .i64 kd):=rfl
theorem abA (kd:Int) (sd:Nat->Int) (s:Value) {i:Nat} (h:i<32):(yO kd sd s)[1+i]? =some (.int .u8 (sd i)):=by
 unfold yO;rw [List.getElem?_toArray,Nat.add_comm,List.getElem?_cons_succ,Lj (by simpa using h)];exact dh h
theorem XV (kd:Int) (sd:Nat->Int) (s:Value):(yO kd sd s)[33]? =some (.int .i64 0):=rfl
theorem XU (kd:Int) (sd:Nat->Int) (s:Value):(yO kd sd s)[34]? =some s:=rfl
theorem kP.new (w:World) (kd:Int) (sd:Nat->Int) (s:Value):kP (w.alloc (.cells (yO kd sd s) 105)) w.heap.size kd sd 0 s:=by
 have hb:=heap_alloc_new w (.cells (yO kd sd s) 105);have hc:=fun i=> cell_of_row _ _ i _ _ (0,0) hb;exact ⟨⟨_,hb,rfl⟩,(hc 0).trans (abB _ _ _),fun i hi=> (hc (1+i)).trans (abA _ _ _ hi),(hc 33).trans (XV _ _ _),(hc 34).trans (XU _ _ _)⟩
theorem xU (w:World):Calls Tryz.prog 44 #[] w fun e w'=> ∃p F,e=.returned (.pointer (some ⟨p,0,none⟩))/\sW w.heap.size w' p F ⟨[], []⟩/\Below w.heap.size w w':=by
 go_enter Tryz.func44,Tryz.ntmps44
 go_wp2_with fail;refine (Ti w).mono ?_;rintro e w1 ⟨q,G,rfl,h1,b1⟩;have H1:=ak h1;have B1:=ak b1;clear h1 b1;go_wp2;go_ret;have hr:=kP.new w1 2 (fun _=> 0) (.pointer (some ⟨q,0,none⟩));have ba:=(bM w1.heap.size w1).alloc (bB _) (.cells (yO 2 (fun _=> 0) (.pointer (some ⟨q,0,none⟩))) 105);exact ⟨_,fun b=> b=w1.heap.size\/G b,rfl,⟨q,G,⟨hr,H1.out.below ba,TS.few.nil,B1.out.size,fun hg=> by have:=H1.out.lt hg;omega⟩,fun _=> Iff.rfl⟩,B1.out.trans (ba.mono B1.out.size)⟩
theorem QU (sd:Nat->Int):Array.foldl (fun (cs:Array Value) (x:Value × Nat)=> cs.setIfInBounds (1+x.snd) x.fst) #[.int .i64 1,.int .u8 0,.int .u8 0,.int .u8 0,.int .u8 0,.int .u8 0,.int .u8 0,.int .u8 0,.int .u8 0,.int .u8 0,.int .u8 0,.int .u8 0,.int .u8 0,.int .u8 0,.int .u8 0,.int .u8 0,.int .u8 0,.int .u8 0,.int .u8 0,.int .u8 0,.int .u8 0,.int .u8 0,.int .u8 0,.int .u8 0,.int .u8 0,.int .u8 0,.int .u8 0,.int .u8 0,.int .u8 0,.int .u8 0,.int .u8 0,.int .u8 0,.int .u8 0,.int .i64 0,.pointer none] (arr .u8 32 sd).zipIdx 0 32=yO 1 sd (.pointer none):=by kernel_rfl
theorem xW (sd:Nat->Int) (hs:∀i,i<32->0<=sd i/\sd i<256) (w:World):Calls Tryz.prog 12 #[.agg (arr .u8 32 sd)] w fun e w'=> ∃p,e=.returned (.pointer (some ⟨p,0,none⟩))/\Ce w.heap.size w' p sd 0/\Below w.heap.size w w':=by
 have HS:=ak hs;clear hs
 go_enter Tryz.func12,Tryz.ntmps12
 go_upto_region 1 with (fail);refine aG (fun w1=> aH .u8 w1 w.heap.size 32 sd/\Below w.heap.size w w1) ⟨bG rfl rfl,(bM _ _).alloc (bB _) _⟩ ?_;rintro w1 ⟨h1,b1⟩;have H1:=ak h1;have B1:=ak b1;clear h1 b1;go_wp2_with (refine aM rfl 22 _ rfl .u8 w.heap.size 32 sd 5 dU dz rfl H1.out ?_);rw [QU];go_ret;have hr:=kP.new w1 1 sd (.pointer none);have ba:=(bM w1.heap.size w1).alloc (bB _) (.cells (yO 1 sd (.pointer none)) 105);have HR:Hid (Ce w.heap.size (w1.alloc (.cells (yO 1 sd (.pointer none)) 105)) w1.heap.size sd 0/\Below w.heap.size w (w1.alloc (.cells (yO 1 sd (.pointer none)) 105))):=ak ⟨⟨hr,HS.out,B1.out.size⟩,B1.out.trans (ba.mono B1.out.size)⟩;exact ⟨w1.heap.size,rfl,HR.out⟩
def Su.new (b:Bool) (sd:Nat->Int):Su:=if b then .by sd 0 else .tm ⟨[], []⟩
theorem ZK:(Value.agg #[.int .u8 1,.int .u8 0,.int .u8 0,.int .u8 0,.int .u8 0,.int .u8 0,.int .u8 0,.int .u8 0,.int .u8 0,.int .u8 0,.int .u8 0,.int .u8 0,.int .u8 0,.int .u8 0,.int .u8 0,.int .u8 0,.int .u8 0,.int .u8 0,.int .u8 0,.int .u8 0,.int .u8 0,.int .u8 0,.int .u8 0,.int .u8 0,.int .u8 0,.int .u8 0,.int .u8 0,.int .u8 0,.int .u8 0,.int .u8 0,.int .u8 0,.int .u8 0])=.agg (arr .u8 32 fun i=> if i=0 then 1 else 0):=by rfl
theorem ZI (w:World):Calls Tryz.prog 11 #[] w fun e w'=> e=.returned (.bool true)/\Below w.heap.size w w':=by
 go_enter Tryz.func11,Tryz.ntmps11
 go_wp2_with fail;refine (xU w).mono ?_;rintro e w1 ⟨p,F,rfl,h1,b1⟩;have H1:=ak h1;have B1:=ak b1;clear h1 b1;go_wp2_with fail;refine (Dz H1.out 3 (by decide)).mono ?_;rw [show vY ⟨[], []⟩ 3=(fI 0,0,TS.draw ⟨[], []⟩ 3) from rfl];rintro e w2 ⟨u,rfl,F2,h2,y2,c2,f2⟩;have Y2:=ak y2.rd;have B2:=ak (B1.out.trans (c2.below B1.out.size fun b hb=> H1.out.hi hb));obtain ⟨au,cu,eu,_⟩:=y2.rd;subst eu;clear h2 y2 c2 f2;go_wp2_with fail;rw [ZK];refine (xW (fun i=> if i=0 then 1 else 0) (fun i _=> by split<;> decide) w2).mono ?_;rintro e w3 ⟨p3,rfl,h3,b3⟩;have H3:=ak h3;have B3:=ak (B2.out.trans (b3.mono B2.out.size));have Y3:=ak (Y2.out.below b3);clear h3 b3;go_wp2_with fail;refine (DC (F:=fun _=> False) ⟨H3.out,fun _=> id⟩ 3 (by decide)).mono ?_;rintro e w4 ⟨u4,rfl,F4,h4,y4,c4,f4⟩;have Y4:=ak (Y3.out.chS c4 fun _ _ _=> id);have B4:=ak (B3.out.trans (c4.tT.below (B:=w.heap.size) B3.out.size fun b hb=> hb.elim (fun e=> e▸jG B2.out.size H3.out.hp) False.elim));obtain ⟨a4,d4,e4,_⟩:=y4.rd;have hl:(Su.draw (.by (fun i=> if i=0 then 1 else 0) 0) 3).1.length=32:=dW _ _;have he:(Su.draw (.by (fun i=> if i=0 then 1 else 0) 0) 3).2.1=0:=rfl;rw [hl] at e4;rw [he];subst e4;clear h4 y4 c4 f4 hl he;rw [iI];have HS:=ak (fun (w5:World) (hb:Below w4.heap.size w4 w5) (hl:eU (fun _=> False) w5 (.slice (some ⟨w4.heap.size,0,none⟩) 9 9) (fI 0))=> abI _ _ 9 9 (bf (fI 0)) (bf (fI 0)) w5 (by have:=(Y4.out.below hb);rwa [iI] at this) (by have:=hl.rd;rwa [iI] at this));rw [show xZ 9 (bf (fI 0)) 9 (bf (fI 0))=true from by unfold xZ;rw [decide_eq_true rfl,mO];rfl] at HS;go_wp2_with fail;refine (HS.out _ ((bM _ _).alloc (bB _) _) (YX 5 (fun _ h=> h.elim) 0 (.inl rfl))).mono ?_;rintro e w6 ⟨rfl,b6⟩;have B6:=ak ((B4.out.alloc B4.out.size _).trans (b6.mono (by rw [World.size_alloc];have:=B4.out.size;omega)));clear b6;go_wp2;go_ret;exact ⟨rfl,B6.out⟩
end Go.Proofs.YtpcjekgfnfjbpaaGreat
namespace Go.Proofs.YtpcjekgfnfjbpaaGreat
open Go.RowKit Go.bI Go.ChangeShapes Go.Maps
structure RP (w0:World) (B:Nat) (w:World) (p:Nat) (F:Nat->Prop) (X:Su) (L:List (Value × List Int)):Prop where
 m:uJ B w p F X
 b:Below w0.heap.size w0 w
 y:∀(j:Nat) (v:Value) (l:List Int),L[j]? =some (v,l)->eU F w v l
 g:w0.heap.size<=B
section
variable {w0 w w' : World} {B p : Nat} {F : Nat -> Prop} {X : Su} {L : List (Value × List Int)} {u v : Value} {l : List Int} {r : UA}
theorem RP.one (m:uJ B w p F X) (b:Below w0.heap.size w0 w) (hy:eU F w v l) (g:w0.heap.size<=B):RP w0 B w p F X [(v,l)] :=⟨m,b,fun j v l hj=> by
 cases j with
 | zero=> cases hj;exact hy
 | succ j=> (cases hj),g⟩
theorem RP.step (h:RP w0 B w p F X L) (hr:Lm B w p F u r w'):∃F',RP w0 B w' p F' r.2.2 ((u,r.1)::L):=by
 obtain ⟨F',m,y,c,f⟩:=hr;refine ⟨F',m,h.b.trans (c.tT.below h.b.size fun b hb=> jG h.g (h.m.hi hb)),fun j v l hj=> ?_,h.g⟩
 cases j with
 | zero=> cases hj;exact y
 | succ j=> exact (h.y j v l hj).chS c f
theorem RP.more (h:RP w0 B w p F X L) (hb:Below w.heap.size w w') (hy:eU F w' u l):RP w0 B w' p F X ((u,l)::L):=by
 refine ⟨h.m.below hb,h.b.trans (hb.mono h.b.size),fun j v l hj=> ?_,h.g⟩
 cases j with
 | zero=> cases hj;exact hy
 | succ j=> exact (h.y j v l hj).below hb
theorem RP.below (h:RP w0 B w p F X L) (hb:Below w.heap.size w w'):RP w0 B w' p F X L:=⟨h.m.below hb,h.b.trans (hb.mono h.b.size),fun j v l hj=> (h.y j v l hj).below hb,h.g⟩
end
end Go.Proofs.YtpcjekgfnfjbpaaGreat
