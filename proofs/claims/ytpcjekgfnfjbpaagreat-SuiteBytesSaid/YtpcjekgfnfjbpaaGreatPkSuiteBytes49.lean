/- Part 49 of SuiteBytes; conditions: in each theorem. -/
import Derived.Test.YtpcjekgfnfjbpaaGreatPkSuiteBytes46
import Derived.Test.YtpcjekgfnfjbpaaGreatPkSuiteBytes48
set_option linter.unusedVariables false
set_option linter.unusedSimpArgs false
set_option maxRecDepth 100000
set_option maxHeartbeats 3200000
namespace Go.Proofs.YtpcjekgfnfjbpaaGreat
open Go.RowKit Go.bC Go.ChangeShapes Go.Maps
attribute [local go_sem ↓] Go.wp_at_zero Go.wp_at_succ
theorem _root_.Go.bC.iW.setRow (F:Nat->Prop) (w:World) (g:Nat) (cs:Array Value) (hF:F g):iW F w (w.setRow g cs):=
 have h:=aC (bT 0 w) (gX g) cs
 ⟨h.os,h.tape,h.output,h.size,fun b _ hn=>setRow_other w g b cs fun e=>hn (e▸hF)⟩
def BU:ByteArray:=⟨#[100,114,97,119]⟩
def mI (sd:Nat->Int) (n:Nat):Nat->Int:=pK 32 sd (pz BU.size (fun _=>8) 1) (sU BU.size (jJ BU) (fun _=>8) (fun _=>wM n) 1)
theorem Ig (sd:Nat->Int) (n i:Nat):0<=mI sd n i/\mI sd n i<256:=nT _ _ _ _ i
theorem Wd (v:Value) (sd:Nat->Int) (n:Nat) (hf:∀i,i<32->0<=sd i/\sd i<256) (vc:Value) (w:World) (h:Rd .u8 w v 32 sd) (hc:oq w vc 1 (fun _=>8) (fun _=>wM n)):
  Calls Tryz.prog 120 #[v,.string BU,vc] w fun e w'=>e=.returned (.tuple #[.agg (arr .u8 32 (mI sd n)),.int .i64 0])/\Below w.heap.size w w':=
 Ca v 32 sd BU vc 1 (fun _=>8) (fun _=>wM n) w h aN aN hf aN hc aN (fun j hj=>by decide) (fun j hj i hi=>Gu _ _)
section
variable {B : Nat} {w w' w1 w2 w3 : World} {p q : Nat} {F G G' : Nat -> Prop} {sd : Nat -> Int} {n : Nat} {v u : Value} {l : List Int}
structure DZ (B:Nat) (w:World) (p:Nat) (sd:Nat->Int) (n:Nat):Prop where
 r:lC w p 1 sd n (.pointer none)
 sdb:∀i,i<32->0<=sd i/\sd i<256
 hp:B<=p
theorem DZ.below (h:DZ B w p sd n) (hb:Below w.heap.size w w'):DZ B w' p sd n:=⟨h.r.below hb,h.sdb,h.hp⟩
theorem DZ.lt (h:DZ B w p sd n):p<w.heap.size:=h.r.row.lt
theorem DZ.keep {H:Nat->Prop} (h:DZ B w p sd n) (hc:iW H w w') (hF:¬ H p):DZ B w' p sd n:=⟨h.r.keep hc hF,h.sdb,h.hp⟩
theorem lC.next {kd m m':Int} {s:Value} (h:lC w p kd sd m s):lC (w.setCell ⟨p,33,none⟩ (.int .i64 m')) p kd sd m' s:=by
 refine⟨h.row.setCell _ rfl _,?_,fun i hi=>?_,?_,?_⟩
 ·rw[World.cell?_setCell_other _ _ _ _ (by intro e;cases e)];exact h.ck
 ·rw[World.cell?_setCell_other _ _ _ _ (by intro e;have:=congrArg Addr.off e;simp only at this;omega)];exact h.cs i hi
 ·exact World.cell?_setCell_same _ _ _ h.cn
 ·rw[World.cell?_setCell_other _ _ _ _ (by intro e;cases e)];exact h.cp
theorem DZ.next (h:DZ B w p sd n) {m:Nat}:DZ B (w.setCell ⟨p,33,none⟩ (.int .i64 (m:Int))) p sd m:=⟨h.r.next,h.sdb,h.hp⟩
theorem DZ.aff (h:DZ B w p sd n) (m:Int):Ag p (fun _=>False) w (w.setCell ⟨p,33,none⟩ (.int .i64 m)):=
 ⟨.set _ _ _ _ (.inl rfl),fun b hb _ i x hx=>by
  rw[World.cell?_setCell_other _ _ _ _ (by intro e;cases e;rw[h.r.cn] at hx;cases hx)];exact hx⟩
theorem nJ {f:Nat->Int} (h:Rd .u8 w v 32 f):Calls Tryz.prog 64 #[v] w fun e w'=>e=.returned (.tuple #[.agg (arr .u8 32 f),.int .i64 0])/\Below w.heap.size w w':=by
 obtain⟨a,c,rfl,h1,h2,_,h4⟩:=h;obtain⟨b,o,rfl,hlt,hc⟩:=h4 aN;have HC:=ak hc;have Pm:=ak hlt;clear h4 hc hlt
 go_enter Tryz.func64,Tryz.ntmps64
 go_upto_region 1 with(fail);refine aJ (fun w1=>aQ .u8 w1 w.heap.size 32 (fun _=>0)/\Below w.heap.size w w1) ⟨bU rfl (by rfl),(bT _ _).alloc (bB _) _⟩ ?_;rintro w1 ⟨hZ,aA⟩;have CB:Hid (∀i,i<32->w1.cell? ⟨b,o+i,none⟩=some (.int .u8 (f i))):=ak fun i hi=>(aA.cell (p:=⟨b,o+i,none⟩) Pm.out).trans (HC.out i hi);have HZ:=ak hZ;have HB:=ak aA;have ha:∀w,(Instr.arrayAt 22 (.slice (some ⟨b,o,none⟩) 32 c)).run Tryz.prog w=.ok (.pointer (some ⟨b,o,none⟩)) w:=fun w=>xG (P:=Tryz.prog) (T:=22) (a:=some ⟨b,o,none⟩) (len:=32) (cap:=c) (n:=32) dY aN w;clear hZ aA
 go_wp2_with (first
  | (refine EP rfl 22 _ rfl .u8 b o 32 f 5 dY dh rfl (fun i hi=>CB.out i hi) ?_)
  | (refine aM rfl 22 _ _ rfl .u8 w.heap.size 32 (fun _=>0) f dh rfl rfl HZ.out ?_))
 exact bodyPost_ret (gK rfl _ _ .u8 w.heap.size 32 _ 5 rfl (HZ.out.setRow _ _) dY dh) rfl ⟨rfl,aC HB.out (bB _) _⟩
theorem sF {m:Nat} {f:Nat->Int} (h:Rd .u8 w v m f) (hm:m≠32):Calls Tryz.prog 64 #[v] w fun e w'=>e=.returned (.tuple #[.agg (arr .u8 32 (fun _=>0)),.int .i64 11])/\Below w.heap.size w w':=by
 obtain⟨a,c,rfl,h1,h2,_,h4⟩:=h;have hm':((m:Int) !=32)=true:=by simp;omega
 clear h4 hm
 go_enter Tryz.func64,Tryz.ntmps64
 go_upto_region 1 with(fail);refine aJ (fun w1=>aQ .u8 w1 w.heap.size 32 (fun _=>0)/\Below w.heap.size w w1) ⟨bU rfl (by rfl),(bT _ _).alloc (bB _) _⟩ ?_;rintro w1 ⟨hZ,aA⟩;have HZ:=ak hZ;have HB:=ak aA;clear hZ aA;go_wp2_with (refine aM rfl 22 _ _ rfl .u8 w.heap.size 32 (fun _=>0) (fun _=>0) dh rfl (by rfl) HZ.out ?_);exact bodyPost_ret (gK rfl _ _ .u8 w.heap.size 32 _ 5 rfl (HZ.out.setRow _ _) dY dh) rfl ⟨rfl,aC HB.out (bB _) _⟩
theorem Jo (h:DZ B w p sd n) (hn:n<=100000):Calls Tryz.prog 66 #[.pointer (some ⟨p,0,none⟩)] w fun e w'=>e=.returned (.agg (arr .u8 32 (mI sd n)))/\DZ B w' p sd (n+1)/\Ag p (fun _=>False) w w':=by
 have H:=ak h;have HN:=ak hn;have cn:=h.r.cn;have HPN:Hid (p<w.heap.size):=ak h.r.row.lt;clear h hn
 go_enter Tryz.func66,Tryz.ntmps66
 clear cn;go_upto_region 1 with(fail);refine aJ (fun w1=>aQ .u8 w1 w.heap.size 32 (fun _=>0)/\Below w.heap.size w w1) ⟨bU rfl (by rfl),(bT _ _).alloc (bB _) _⟩ ?_;rintro w1 ⟨hZ,aA⟩;have H1:=ak (H.out.below aA);have cn:=H1.out.r.cn;have HZ:=ak hZ;have HB:=ak aA;clear hZ aA;go_wp2_with fail;refine(Mj (n:Int) 8 w1 aN aN aH (by have:=HN.out;omega) (aL)).mono ?_;rintro e w2 ⟨u,rfl,hu,b2⟩;have HU:=ak hu.rd;obtain⟨au,cu,rfl,_⟩:=hu.rd;have H2:=ak (H1.out.below b2);have HZ2:=ak (HZ.out.kept b2);have HB2:=ak (HB.out.trans (b2.mono HB.out.size));clear hu b2 cn;go_wp2_with fail;have BA:=(bT w2.heap.size w2).alloc (bB _) (.cells [Value.slice au 8 cu].toArray 23);refine(Wd _ sd n H2.out.sdb _ _ (H2.out.r.below BA).rd (new1 HU.out (bT _ _))).mono ?_;rintro e w3 ⟨rfl,b3⟩;have B3:=ak (BA.trans (b3.mono (by rw[World.size_alloc];omega)));have H3:=ak (H2.out.below B3.out);have HZ3:=ak (HZ2.out.kept B3.out);have HB3:=ak (HB2.out.trans (B3.out.mono HB2.out.size));clear b3 BA;obtain⟨D,hD⟩:∃D,D=mI sd n:=⟨_,rfl⟩
 rw[<-hD];have Xp:=ak hD;clear hD;go_upto_region 3 with(refine aM rfl 22 _ _ rfl .u8 w3.heap.size 32 (fun _=>0) D dh rfl rfl (bU rfl (by rfl)) ?_);refine aJ (fun w4=>aQ .u8 w4 w.heap.size 32 (fun _=>0)/\aQ .u8 w4 w3.heap.size 32 D/\Below w3.heap.size w3 w4) ⟨(HZ3.out.alloc _).aG _ (Nat.ne_of_lt HZ3.out.lt) _,(show aQ .u8 (w3.alloc (.cells (arr .u8 32 (fun _=>0)) 22)) w3.heap.size 32 (fun _=>0) from bU rfl rfl).setRow 32 D,aC ((bT _ _).alloc (bB _) _) (bB _) _⟩ ?_;rintro w4 ⟨h4,h5,aA⟩;have H4:=ak (H3.out.below aA);have RY:=ak (HB3.out.trans (aA.mono HB3.out.size));have HZ4:=ak h4;have HD4:=ak h5;have HPL:Hid (p<w.heap.size/\w.heap.size<w3.heap.size):=ak ⟨HPN.out,HZ3.out.lt⟩;clear h4 h5 aA;have cn:=H4.out.r.cn;have fr:=H4.out.r.row.free 33;have hnb:(n:Int)<1000000:=by have:=HN.out;omega
 go_upto_region 4 with(fail);have CS:=H4.out.aff ((n:Int)+1);refine aJ (fun w5=>DZ B w5 p sd (n+1)/\aQ .u8 w5 w.heap.size 32 (fun _=>0)/\aQ .u8 w5 w3.heap.size 32 D/\Ag p (fun _=>False) w w5) ⟨H4.out.next (m:=n+1),HZ4.out.yJ CS.yJ (fun e=>e.elim (fun e=>by have:=HPL.out;omega) id),HD4.out.yJ CS.yJ (fun e=>e.elim (fun e=>by have:=HPL.out;omega) id),(Ag.of_below RY.out _).trans CS fun _ h=>h.elim⟩ ?_;rintro w5 ⟨h5,hz5,hd5,c5⟩;have H5:=ak h5;have HZ5:=ak hz5;have HD5:=ak hd5;have C5:=ak c5;clear h5 hz5 hd5 c5 CS cn fr hnb
 go_wp2_with (first
  | (refine bq rfl 22 _ rfl .u8 w3.heap.size 32 D 5 dY dh rfl HD5.out ?_)
  | (refine aM rfl 22 _ _ rfl .u8 w.heap.size 32 (fun _=>0) D dh rfl rfl HZ5.out ?_))
 obtain rfl:=Xp.out;have CR:=iW.setRow (fun b=>b=w.heap.size) w5 w.heap.size (arr .u8 32 (mI sd n)) rfl;exact bodyPost_ret (bg rfl _ _ .u8 w.heap.size 32 _ 5 rfl (HZ5.out.setRow _ _) dY dh) rfl ⟨rfl,H5.out.keep CR fun e=>by have:=HPL.out;omega,C5.out.trans (Ag.Uc CR) fun b e=>.inr aH⟩
end
inductive Su where
 | by(sd:Nat->Int) (n:Nat)
 | tm (S:TS)
def Su.size:Su->Nat
 | .by _ n=>n
 | .tm S=>S.l.length
abbrev UA:Type:=List Int × Int × Su
def xS (B:Nat) (w:World) (p:Nat) (F:Nat->Prop):Su->Prop
 | .by sd n=>DZ B w p sd n/\∀b,¬ F b
 | .tm S=>zQ B w p F S
section
variable {B : Nat} {w w' w1 w2 w3 : World} {p q : Nat} {F F' G G' : Nat -> Prop} {sd : Nat -> Int} {n : Nat} {v u v' : Value} {l l' : List Int} {X X' : Su} {S : TS}
theorem xS.below (h:xS B w p F X) (hb:Below w.heap.size w w'):xS B w' p F X:=by
 cases X with
 | «by» sd n=>exact⟨h.1.below hb,h.2⟩
 | tm S=>exact zQ.below h hb
theorem zQ.pLt (h:zQ B w p F S):p<w.heap.size/\B<=p:=by obtain⟨q,G,h,_⟩:=h;exact⟨h.r.row.lt,h.hp⟩
theorem xS.pLt (h:xS B w p F X):p<w.heap.size/\B<=p:=by
 cases X with
 | «by» sd n=>exact⟨h.1.lt,h.1.hp⟩
 | tm S=>exact zQ.pLt h
theorem xS.hi (h:xS B w p F X) {b:Nat} (hb:b=p\/F b):B<=b:=by
 rcases hb with rfl | hb
 ·exact h.pLt.2
 ·cases X with
  | «by» sd n=>exact absurd hb (h.2 b)
  | tm S=>exact zQ.hi h hb
def RA (B:Nat) (w:World) (p:Nat) (F:Nat->Prop) (v:Value) (r:UA) (w':World):Prop:=∃F',xS B w' p F' r.2.2/\kJ F' w' v r.1/\Ag p F w w'/\∀b,F' b->F b\/w.heap.size<=b
theorem Iq.su {r:TA} (h:Iq B w p F v r w'):RA B w p F v (r.1,r.2.1,.tm r.2.2) w':=by
 obtain⟨F',h1,h2,h3,h4⟩:=h;exact⟨F',h1,h2,Ag.Uc h3,h4⟩
theorem kJ.any {f:Nat->Int} {m:Nat} (h:Rd .u8 w v m f) (hf:∀i,i<m->0<=f i/\f i<256) (hF:∀b,¬ F b):kJ F w v (mW m f):=⟨wP hf,h.mW,fun _ b _=>hF b⟩
def rR (g:(Nat->Int)->Nat->Int) (sd:Nat->Int) (n:Nat) (l:List Int):UA:=if l.length=32 then (mW 32 (g (bf l)),0,.by sd n) else ([],11,.by sd n)
def Su.draw:Su->Int->UA
 | .by sd n,s=>if isSort s=true then (mW 32 (mI sd n),0,.by sd (n+1)) else ([],2,.by sd n)
 | .tm S,s=>((xA S s).1,(xA S s).2.1,.tm (xA S s).2.2)
theorem uf (h:xS B w p F (.by sd n)) (hb:Below w.heap.size w w') (er:Int):RA B w p F (.slice none 0 0) ([],er,.by sd n) w':=
 ⟨F,⟨h.1.below hb,h.2⟩,kJ.nil _ _,.of_below hb _,fun b hb=>.inl hb⟩
theorem vV {m k:Nat} {f:Nat->Int} (h:xS B w p F (.by sd n)) (hs:DZ B w1 p sd k) (hc:Ag p (fun _=>False) w w1) (hr:Rd .u8 w1 v m f) (hf:∀i,i<m->0<=f i/\f i<256) (er:Int):RA B w p F v (mW m f,er,.by sd k) w1:=
 ⟨F,⟨hs,h.2⟩,kJ.any hr hf h.2,⟨hc.yJ.mono fun b _ hb=>hb.imp id fun h=>h.elim,fun b hb _=>hc.u8 b hb id⟩,fun b hb=>.inl hb⟩
theorem Ep (h:xS B w p F (.by sd n)) (s:Int) (hn:n<=900):Calls Tryz.prog 26 #[.pointer (some ⟨p,0,none⟩),.int .i64 s] w fun e w'=> ∃u,e=.returned (.tuple #[u,.int .i64 (Su.draw (.by sd n) s).2.1])/\RA B w p F u (Su.draw (.by sd n) s) w':=by
 have HQ:=ak h;have HL:=ak hn;have HW:=ak (eB h.1.r);obtain⟨R,hR⟩:∃x,x=Su.draw (.by sd n) s:=⟨_,rfl⟩
 rw[<-hR];have HR:=ak hR;have ck:=h.1.r.ck;clear hR h hn;by_cases hs:1<=s/\s<=4
 ·have HS:Hid (isSort s=true):=ak (by unfold isSort;rw[decide_eq_true hs.1,decide_eq_true hs.2];rfl);have HE:Hid (R=(mW 32 (mI sd n),0,.by sd (n+1))):=ak (by rw[HR.out];exact if_pos HS.out);have h1:decide (s<1)=false:=decide_eq_false aH;have h2:decide (4<s)=false:=decide_eq_false aH;clear hs
  go_enter Tryz.func26,Tryz.ntmps26
  go_wp2_with fail;refine HW.out.mono ?_;rintro e w1 ⟨rfl,rfl⟩;go_wp2_with fail;refine(Jo HQ.out.1 (by have:=HL.out;omega)).mono ?_;rintro e w2 ⟨rfl,h2,c2⟩;have H2:=ak h2;have C2:=ak c2;clear h2 c2 ck;obtain⟨D,hD⟩:∃D,D=mI sd n:=⟨_,rfl⟩
  rw[<-hD] at HE ⊢;have HDB:Hid (∀i,i<32->0<=D i/\D i<256):=ak fun i _=>hD▸Ig sd n i;clear hD;go_upto_region 8 with(refine aM rfl 22 _ _ rfl .u8 w2.heap.size 32 (fun _=>0) D dh rfl rfl (bU rfl (by rfl)) ?_);refine aJ (fun w4=>aQ .u8 w4 w2.heap.size 32 D/\Below w2.heap.size w2 w4) ⟨(show aQ .u8 (w2.alloc (.cells (arr .u8 32 (fun _=>0)) 22)) w2.heap.size 32 (fun _=>0) from bU rfl rfl).setRow 32 D,aC ((bT _ _).alloc (bB _) _) (bB _) _⟩ ?_;rintro w4 ⟨h4,b4⟩;have HD:=ak (vV HQ.out (H2.out.below b4) (C2.out.trans (Ag.of_below b4 (fun _=>False)) fun _ h=>.inl h) (h4.rd aN) HDB.out 0);clear h4 b4;go_wp2;go_ret2;rw[HE.out];exact⟨_,rfl,HD.out⟩
 ·have HE:Hid (R=([],2,.by sd n)):=ak (by
   rw[HR.out];refine if_neg fun h=>?_;simp only[isSort,NK,decide_eq_true_eq] at h;exact hs h)
  by_cases h1:s<1
  ·have h1':decide (s<1)=true:=decide_eq_true h1;clear hs h1
   go_enter Tryz.func26,Tryz.ntmps26
   go_wp2_with fail;refine HW.out.mono ?_;rintro e w1 ⟨rfl,rfl⟩;go_wp2;go_ret2;rw[HE.out];exact⟨_,rfl,uf HQ.out (bT _ _) 2⟩
  ·have h1':decide (s<1)=false:=decide_eq_false h1;have h2':decide (4<s)=true:=decide_eq_true aH;clear hs h1
   go_enter Tryz.func26,Tryz.ntmps26
   go_wp2_with fail;refine HW.out.mono ?_;rintro e w1 ⟨rfl,rfl⟩;go_wp2;go_ret2;rw[HE.out];exact⟨_,rfl,uf HQ.out (bT _ _) 2⟩
end
section
variable {B : Nat} {w w' w1 w2 w3 : World} {p q : Nat} {F F' G G' : Nat -> Prop} {sd : Nat -> Int} {n : Nat} {v u v' : Value} {l l' : List Int} {X X' : Su} {S : TS}
theorem Jj (hl:l.length=32) (ho:okB l) (h:Rd .u8 w v l.length (bf l)):Calls Tryz.prog 89 #[v,.func (.func 93) #[] #[]] w fun e w'=> ∃u,e=.returned (.tuple #[u,.int .i64 0])/\Rd .u8 w' u 32 (lu (bf l))/\Below w.heap.size w w':=by
 rw[hl] at h;have HK:=ak (nJ h);have HC:=ak (fun w=>Rf (bf l) (fun i hi=>ho.at i aH) w);obtain⟨a,c,rfl,h1,h2,_,h4⟩:=h;obtain⟨D,hD⟩:∃D,D=lu (bf l):=⟨_,rfl⟩
 rw[<-hD] at HC ⊢;clear hD h4 hl ho
 go_enter Tryz.func89,Tryz.ntmps89
 go_wp2_with fail;refine HK.out.mono ?_;rintro e w1 ⟨rfl,b1⟩;have B1:=ak b1;clear b1;obtain⟨f,hf⟩:∃f,f=bf l:=⟨_,rfl⟩
 rw[<-hf] at HC ⊢;clear hf;go_upto_region 2 with(refine aM rfl 22 _ _ rfl .u8 w1.heap.size 32 (fun _=>0) f dh rfl rfl (bU rfl (by rfl)) ?_);refine aJ (fun w2=>aQ .u8 w2 w1.heap.size 32 f/\Below w.heap.size w w2) ⟨(show aQ .u8 (w1.alloc (.cells (arr .u8 32 (fun _=>0)) 22)) w1.heap.size 32 (fun _=>0) from bU rfl rfl).setRow 32 f,aC (B1.out.alloc B1.out.size _) B1.out.size _⟩ ?_;rintro w2 ⟨h2,b2⟩;have H2:=ak h2;have B2:=ak b2;clear h2 b2;go_wp2_with (refine bq rfl 22 _ rfl .u8 w1.heap.size 32 f 5 dY dh rfl H2.out ?_);refine(HC.out _).mono ?_;rintro e w3 ⟨rfl,b3⟩;have B3:=ak (B2.out.trans (b3.mono B2.out.size));clear b3;go_upto_region 5 with(refine aM rfl 22 _ _ rfl .u8 w3.heap.size 32 (fun _=>0) D dh rfl rfl (bU rfl (by rfl)) ?_);refine aJ (fun w4=>aQ .u8 w4 w3.heap.size 32 D/\Below w.heap.size w w4) ⟨(show aQ .u8 (w3.alloc (.cells (arr .u8 32 (fun _=>0)) 22)) w3.heap.size 32 (fun _=>0) from bU rfl rfl).setRow 32 D,aC (B3.out.alloc B3.out.size _) B3.out.size _⟩ ?_;rintro w4 ⟨h4,b4⟩;have HR:=ak (h4.rd aN);have B4:=ak b4;clear h4 b4;go_wp2;go_ret2;exact⟨_,rfl,HR.out,B4.out⟩
theorem Dj (hl:l.length≠32) (h:Rd .u8 w v l.length (bf l)):Calls Tryz.prog 89 #[v,.func (.func 93) #[] #[]] w fun e w'=>e=.returned (.tuple #[.slice none 0 0,.int .i64 11])/\Below w.heap.size w w':=by
 have HK:=ak (sF h hl);obtain⟨a,c,rfl,h1,h2,_,h4⟩:=h;clear h4 hl
 go_enter Tryz.func89,Tryz.ntmps89
 go_wp2_with fail;refine HK.out.mono ?_;rintro e w1 ⟨rfl,b1⟩;have B1:=ak b1;clear b1;go_upto_region 2 with(refine aM rfl 22 _ _ rfl .u8 w1.heap.size 32 (fun _=>0) (fun _=>0) dh rfl rfl (bU rfl (by rfl)) ?_);refine aJ (fun w2=>Below w.heap.size w w2) (aC (B1.out.alloc B1.out.size _) B1.out.size _) ?_;rintro w2 b2;have B2:=ak b2;clear b2;go_wp2;go_ret2;exact⟨rfl,B2.out⟩
theorem Em (h:xS B w p F (.by sd n)) (hb:kJ F w v l):Calls Tryz.prog 35 #[.pointer (some ⟨p,0,none⟩),v] w fun e w'=> ∃u,e=.returned (.tuple #[u,.int .i64 (rR lu sd n l).2.1])/\RA B w p F u (rR lu sd n l) w':=by
 have HQ:=ak h;have HW:=ak (eB h.1.r);obtain⟨R,hR⟩:∃x,x=rR lu sd n l:=⟨_,rfl⟩
 rw[<-hR];have HR:=ak hR;by_cases hl:l.length=32
 ·have HC:=ak (Jj hl hb.ok hb.rd);have HE:Hid (R=(mW 32 (lu (bf l)),0,.by sd n)):=ak (by rw[HR.out];exact if_pos hl);obtain⟨av,cv,rfl,_⟩:=hb.rd;clear hR h hb hl
  go_enter Tryz.func35,Tryz.ntmps35
  go_wp2_with fail;refine HW.out.mono ?_;rintro e w1 ⟨rfl,rfl⟩;go_wp2_with fail;refine HC.out.mono ?_;rintro e w2 ⟨u,rfl,hr,b2⟩;have HD:=ak (vV HQ.out (HQ.out.1.below b2) (Ag.of_below b2 _) hr (fun i _=>JZ (bf l) i) 0);clear hr b2;go_wp2;go_ret2;rw[HE.out];exact⟨u,rfl,HD.out⟩
 ·have HC:=ak (Dj hl hb.rd);have HE:Hid (R=([],11,.by sd n)):=ak (by rw[HR.out];exact if_neg hl);obtain⟨av,cv,rfl,_⟩:=hb.rd;clear hR h hb hl
  go_enter Tryz.func35,Tryz.ntmps35
  go_wp2_with fail;refine HW.out.mono ?_;rintro e w1 ⟨rfl,rfl⟩;go_wp2_with fail;refine HC.out.mono ?_;rintro e w2 ⟨rfl,b2⟩;have HD:=ak (uf HQ.out b2 11);clear b2;go_wp2;go_ret2;rw[HE.out];exact⟨_,rfl,HD.out⟩
theorem Jk (hl:l.length=32) (ho:okB l) (h:Rd .u8 w v l.length (bf l)):Calls Tryz.prog 89 #[v,.func (.func 94) #[] #[]] w fun e w'=> ∃u,e=.returned (.tuple #[u,.int .i64 0])/\Rd .u8 w' u 32 (mX (bf l))/\Below w.heap.size w w':=by
 rw[hl] at h;have HK:=ak (nJ h);have HC:=ak (fun w=>Rh (bf l) (fun i hi=>ho.at i aH) w);obtain⟨a,c,rfl,h1,h2,_,h4⟩:=h;obtain⟨D,hD⟩:∃D,D=mX (bf l):=⟨_,rfl⟩
 rw[<-hD] at HC ⊢;clear hD h4 hl ho
 go_enter Tryz.func89,Tryz.ntmps89
 go_wp2_with fail;refine HK.out.mono ?_;rintro e w1 ⟨rfl,b1⟩;have B1:=ak b1;clear b1;obtain⟨f,hf⟩:∃f,f=bf l:=⟨_,rfl⟩
 rw[<-hf] at HC ⊢;clear hf;go_upto_region 2 with(refine aM rfl 22 _ _ rfl .u8 w1.heap.size 32 (fun _=>0) f dh rfl rfl (bU rfl (by rfl)) ?_);refine aJ (fun w2=>aQ .u8 w2 w1.heap.size 32 f/\Below w.heap.size w w2) ⟨(show aQ .u8 (w1.alloc (.cells (arr .u8 32 (fun _=>0)) 22)) w1.heap.size 32 (fun _=>0) from bU rfl rfl).setRow 32 f,aC (B1.out.alloc B1.out.size _) B1.out.size _⟩ ?_;rintro w2 ⟨h2,b2⟩;have H2:=ak h2;have B2:=ak b2;clear h2 b2;go_wp2_with (refine bq rfl 22 _ rfl .u8 w1.heap.size 32 f 5 dY dh rfl H2.out ?_);refine(HC.out _).mono ?_;rintro e w3 ⟨rfl,b3⟩;have B3:=ak (B2.out.trans (b3.mono B2.out.size));clear b3;go_upto_region 5 with(refine aM rfl 22 _ _ rfl .u8 w3.heap.size 32 (fun _=>0) D dh rfl rfl (bU rfl (by rfl)) ?_);refine aJ (fun w4=>aQ .u8 w4 w3.heap.size 32 D/\Below w.heap.size w w4) ⟨(show aQ .u8 (w3.alloc (.cells (arr .u8 32 (fun _=>0)) 22)) w3.heap.size 32 (fun _=>0) from bU rfl rfl).setRow 32 D,aC (B3.out.alloc B3.out.size _) B3.out.size _⟩ ?_;rintro w4 ⟨h4,b4⟩;have HR:=ak (h4.rd aN);have B4:=ak b4;clear h4 b4;go_wp2;go_ret2;exact⟨_,rfl,HR.out,B4.out⟩
theorem Dk (hl:l.length≠32) (h:Rd .u8 w v l.length (bf l)):Calls Tryz.prog 89 #[v,.func (.func 94) #[] #[]] w fun e w'=>e=.returned (.tuple #[.slice none 0 0,.int .i64 11])/\Below w.heap.size w w':=by
 have HK:=ak (sF h hl);obtain⟨a,c,rfl,h1,h2,_,h4⟩:=h;clear h4 hl
 go_enter Tryz.func89,Tryz.ntmps89
 go_wp2_with fail;refine HK.out.mono ?_;rintro e w1 ⟨rfl,b1⟩;have B1:=ak b1;clear b1;go_upto_region 2 with(refine aM rfl 22 _ _ rfl .u8 w1.heap.size 32 (fun _=>0) (fun _=>0) dh rfl rfl (bU rfl (by rfl)) ?_);refine aJ (fun w2=>Below w.heap.size w w2) (aC (B1.out.alloc B1.out.size _) B1.out.size _) ?_;rintro w2 b2;have B2:=ak b2;clear b2;go_wp2;go_ret2;exact⟨rfl,B2.out⟩
theorem En (h:xS B w p F (.by sd n)) (hb:kJ F w v l):Calls Tryz.prog 36 #[.pointer (some ⟨p,0,none⟩),v] w fun e w'=> ∃u,e=.returned (.tuple #[u,.int .i64 (rR mX sd n l).2.1])/\RA B w p F u (rR mX sd n l) w':=by
 have HQ:=ak h;have HW:=ak (eB h.1.r);obtain⟨R,hR⟩:∃x,x=rR mX sd n l:=⟨_,rfl⟩
 rw[<-hR];have HR:=ak hR;by_cases hl:l.length=32
 ·have HC:=ak (Jk hl hb.ok hb.rd);have HE:Hid (R=(mW 32 (mX (bf l)),0,.by sd n)):=ak (by rw[HR.out];exact if_pos hl);obtain⟨av,cv,rfl,_⟩:=hb.rd;clear hR h hb hl
  go_enter Tryz.func36,Tryz.ntmps36
  go_wp2_with fail;refine HW.out.mono ?_;rintro e w1 ⟨rfl,rfl⟩;go_wp2_with fail;refine HC.out.mono ?_;rintro e w2 ⟨u,rfl,hr,b2⟩;have HD:=ak (vV HQ.out (HQ.out.1.below b2) (Ag.of_below b2 _) hr (fun i _=>Kn (bf l) i) 0);clear hr b2;go_wp2;go_ret2;rw[HE.out];exact⟨u,rfl,HD.out⟩
 ·have HC:=ak (Dk hl hb.rd);have HE:Hid (R=([],11,.by sd n)):=ak (by rw[HR.out];exact if_neg hl);obtain⟨av,cv,rfl,_⟩:=hb.rd;clear hR h hb hl
  go_enter Tryz.func36,Tryz.ntmps36
  go_wp2_with fail;refine HW.out.mono ?_;rintro e w1 ⟨rfl,rfl⟩;go_wp2_with fail;refine HC.out.mono ?_;rintro e w2 ⟨rfl,b2⟩;have HD:=ak (uf HQ.out b2 11);clear b2;go_wp2;go_ret2;rw[HE.out];exact⟨_,rfl,HD.out⟩
end
section
variable {B : Nat} {w w' w1 w2 w3 : World} {p q : Nat} {F F' G G' : Nat -> Prop} {sd : Nat -> Int} {n : Nat} {v u v' : Value} {l l' : List Int} {X X' X'' : Su} {S S' : TS}
theorem qF (h:xS B w p F X) (s:Int) (hn:X.size<=900):Calls Tryz.prog 26 #[.pointer (some ⟨p,0,none⟩),.int .i64 s] w fun e w'=> ∃u,e=.returned (.tuple #[u,.int .i64 (X.draw s).2.1])/\RA B w p F u (X.draw s) w':=by
 cases X with
 | «by» sd n=>exact Ep h s hn
 | tm S=>exact(Eo h s hn).mono fun e w' ⟨u,h1,h2⟩=>⟨u,h1,h2.su⟩
end
def zD (kd:Int) (sd:Nat->Int) (s:Value):Array Value:=(.int .i64 kd::(vals .u8 32 sd++ [.int .i64 0,s])).toArray
theorem abx (kd:Int) (sd:Nat->Int) (s:Value):(zD kd sd s)[0]? =some (.int .i64 kd):=rfl
theorem abw (kd:Int) (sd:Nat->Int) (s:Value) {i:Nat} (h:i<32):(zD kd sd s)[1+i]? =some (.int .u8 (sd i)):=by
 unfold zD;rw[List.getElem?_toArray,Nat.add_comm,List.getElem?_cons_succ,NM (by simpa using h)];exact dS h
theorem XR (kd:Int) (sd:Nat->Int) (s:Value):(zD kd sd s)[33]? =some (.int .i64 0):=rfl
theorem XQ (kd:Int) (sd:Nat->Int) (s:Value):(zD kd sd s)[34]? =some s:=rfl
theorem lC.new (w:World) (kd:Int) (sd:Nat->Int) (s:Value):lC (w.alloc (.cells (zD kd sd s) 105)) w.heap.size kd sd 0 s:=by
 have hb:=heap_alloc_new w (.cells (zD kd sd s) 105);have hc:=fun i=>cell_of_row _ _ i _ _ (0,0) hb;exact⟨⟨_,hb,rfl⟩,(hc 0).trans (abx _ _ _),fun i hi=>(hc (1+i)).trans (abw _ _ _ hi),(hc 33).trans (XR _ _ _),(hc 34).trans (XQ _ _ _)⟩
theorem Ji (w:World):Calls Tryz.prog 44 #[] w fun e w'=> ∃p F,e=.returned (.pointer (some ⟨p,0,none⟩))/\zQ w.heap.size w' p F ⟨[], []⟩/\Below w.heap.size w w':=by
 go_enter Tryz.func44,Tryz.ntmps44
 go_wp2_with fail;refine(SQ w).mono ?_;rintro e w1 ⟨q,G,rfl,h1,b1⟩;have H1:=ak h1;have B1:=ak b1;clear h1 b1;go_wp2;go_ret;have hr:=lC.new w1 2 (fun _=>0) (.pointer (some ⟨q,0,none⟩));have ba:=(bT w1.heap.size w1).alloc (bB _) (.cells (zD 2 (fun _=>0) (.pointer (some ⟨q,0,none⟩))) 105);exact⟨_,fun b=>b=w1.heap.size\/G b,rfl,⟨q,G,⟨hr,H1.out.below ba,TS.few.nil,B1.out.size,fun hg=>by have:=H1.out.lt hg;omega⟩,fun _=>Iff.rfl⟩,B1.out.trans (ba.mono B1.out.size)⟩
theorem QW (sd:Nat->Int):Array.foldl (fun(cs:Array Value) (x:Value × Nat)=>cs.setIfInBounds (1+x.snd) x.fst) #[.int .i64 1,.int .u8 0,.int .u8 0,.int .u8 0,.int .u8 0,.int .u8 0,.int .u8 0,.int .u8 0,.int .u8 0,.int .u8 0,.int .u8 0,.int .u8 0,.int .u8 0,.int .u8 0,.int .u8 0,.int .u8 0,.int .u8 0,.int .u8 0,.int .u8 0,.int .u8 0,.int .u8 0,.int .u8 0,.int .u8 0,.int .u8 0,.int .u8 0,.int .u8 0,.int .u8 0,.int .u8 0,.int .u8 0,.int .u8 0,.int .u8 0,.int .u8 0,.int .u8 0,.int .i64 0,.pointer none] (arr .u8 32 sd).zipIdx 0 32=zD 1 sd (.pointer none):=by kernel_rfl
theorem yS (sd:Nat->Int) (hs:∀i,i<32->0<=sd i/\sd i<256) (w:World):Calls Tryz.prog 12 #[.agg (arr .u8 32 sd)] w fun e w'=> ∃p,e=.returned (.pointer (some ⟨p,0,none⟩))/\DZ w.heap.size w' p sd 0/\Below w.heap.size w w':=by
 have HS:=ak hs;clear hs
 go_enter Tryz.func12,Tryz.ntmps12
 go_upto_region 1 with(fail);refine aJ (fun w1=>aQ .u8 w1 w.heap.size 32 sd/\Below w.heap.size w w1) ⟨bU rfl rfl,(bT _ _).alloc (bB _) _⟩ ?_;rintro w1 ⟨h1,b1⟩;have H1:=ak h1;have B1:=ak b1;clear h1 b1;go_wp2_with (refine bq rfl 22 _ rfl .u8 w.heap.size 32 sd 5 dY dh rfl H1.out ?_);rw[QW];go_ret;have hr:=lC.new w1 1 sd (.pointer none);have ba:=(bT w1.heap.size w1).alloc (bB _) (.cells (zD 1 sd (.pointer none)) 105);have HR:Hid (DZ w.heap.size (w1.alloc (.cells (zD 1 sd (.pointer none)) 105)) w1.heap.size sd 0/\Below w.heap.size w (w1.alloc (.cells (zD 1 sd (.pointer none)) 105))):=ak ⟨⟨hr,HS.out,B1.out.size⟩,B1.out.trans (ba.mono B1.out.size)⟩;exact⟨w1.heap.size,rfl,HR.out⟩
end Go.Proofs.YtpcjekgfnfjbpaaGreat
namespace Go.Proofs.YtpcjekgfnfjbpaaGreat
open Go.RowKit Go.bC Go.ChangeShapes Go.Maps
structure WX (w0:World) (B:Nat) (w:World) (p:Nat) (F:Nat->Prop) (X:Su) (L:List (Value × List Int)):Prop where
 m:xS B w p F X
 b:Below w0.heap.size w0 w
 y:∀(j:Nat) (v:Value) (l:List Int),L[j]? =some (v,l)->kJ F w v l
 g:w0.heap.size<=B
section
variable {w0 w w' : World} {B p : Nat} {F : Nat -> Prop} {X : Su} {L : List (Value × List Int)} {u v : Value} {l : List Int} {r : UA}
theorem WX.step (h:WX w0 B w p F X L) (hr:RA B w p F u r w'):∃F',WX w0 B w' p F' r.2.2 ((u,r.1)::L):=by
 obtain⟨F',m,y,c,f⟩:=hr;refine⟨F',m,h.b.trans (c.yJ.below h.b.size fun b hb=>jS h.g (h.m.hi hb)),fun j v l hj=>?_,h.g⟩
 cases j with
 | zero=>cases hj;exact y
 | succ j=>exact(h.y j v l hj).chS c f
theorem WX.more (h:WX w0 B w p F X L) (hb:Below w.heap.size w w') (hy:kJ F w' u l):WX w0 B w' p F X ((u,l)::L):=by
 refine⟨h.m.below hb,h.b.trans (hb.mono h.b.size),fun j v l hj=>?_,h.g⟩
 cases j with
 | zero=>cases hj;exact hy
 | succ j=>exact(h.y j v l hj).below hb
theorem WX.below (h:WX w0 B w p F X L) (hb:Below w.heap.size w w'):WX w0 B w' p F X L:=⟨h.m.below hb,h.b.trans (hb.mono h.b.size),fun j v l hj=>(h.y j v l hj).below hb,h.g⟩
end
end Go.Proofs.YtpcjekgfnfjbpaaGreat
namespace Go.Proofs.YtpcjekgfnfjbpaaGreat
open Go.RowKit Go.bC Go.ChangeShapes Go.Maps
attribute [local go_sem ↓] Go.wp_at_zero Go.wp_at_succ
theorem Zw:(Value.agg #[.int .u8 1,.int .u8 0,.int .u8 0,.int .u8 0,.int .u8 0,.int .u8 0,.int .u8 0,.int .u8 0,.int .u8 0,.int .u8 0,.int .u8 0,.int .u8 0,.int .u8 0,.int .u8 0,.int .u8 0,.int .u8 0,.int .u8 0,.int .u8 0,.int .u8 0,.int .u8 0,.int .u8 0,.int .u8 0,.int .u8 0,.int .u8 0,.int .u8 0,.int .u8 0,.int .u8 0,.int .u8 0,.int .u8 0,.int .u8 0,.int .u8 0,.int .u8 0])=.agg (arr .u8 32 fun i=>if i=0 then 1 else 0):=by rfl
theorem Zu (w:World):Calls Tryz.prog 11 #[] w fun e w'=>e=.returned (.bool true)/\Below w.heap.size w w':=by
 go_enter Tryz.func11,Tryz.ntmps11
 go_wp2_with fail;refine(Ji w).mono ?_;rintro e w1 ⟨p,F,rfl,h1,b1⟩;have H1:=ak h1;have B1:=ak b1;clear h1 b1;go_wp2_with fail;refine(Eo H1.out 3 aN).mono ?_;rw[show xA ⟨[], []⟩ 3=(uw 0,0,TS.draw ⟨[], []⟩ 3) from rfl];rintro e w2 ⟨u,rfl,F2,h2,y2,c2,f2⟩;have Y2:=ak y2.rd;have B2:=ak (B1.out.trans (c2.below B1.out.size fun b hb=>H1.out.hi hb));obtain⟨au,cu,eu,_⟩:=y2.rd;subst eu;clear h2 y2 c2 f2;go_wp2_with fail;rw[Zw];refine(yS (fun i=>if i=0 then 1 else 0) (fun i _=>by split<;> decide) w2).mono ?_;rintro e w3 ⟨p3,rfl,h3,b3⟩;have H3:=ak h3;have B3:=ak (B2.out.trans (b3.mono B2.out.size));have Y3:=ak (Y2.out.below b3);clear h3 b3;go_wp2_with fail;refine(Ep (F:=fun _=>False) ⟨H3.out,fun _=>id⟩ 3 aN).mono ?_;rintro e w4 ⟨u4,rfl,F4,h4,y4,c4,f4⟩;have Y4:=ak (Y3.out.chS c4 fun _ _ _=>id);have B4:=ak (B3.out.trans (c4.yJ.below (B:=w.heap.size) B3.out.size fun b hb=>hb.elim (fun e=>e▸jS B2.out.size H3.out.hp) False.elim));obtain⟨a4,d4,e4,_⟩:=y4.rd;have hl:(Su.draw (.by (fun i=>if i=0 then 1 else 0) 0) 3).1.length=32:=fA _ _;have he:(Su.draw (.by (fun i=>if i=0 then 1 else 0) 0) 3).2.1=0:=rfl;rw[hl] at e4;rw[he];subst e4;clear h4 y4 c4 f4 hl he;rw[oF];have HS:=ak (fun(w5:World) (hb:Below w4.heap.size w4 w5) (hl:kJ (fun _=>False) w5 (.slice (some ⟨w4.heap.size,0,none⟩) 9 9) (uw 0))=>abD _ _ 9 9 (bf (uw 0)) (bf (uw 0)) w5 (by have:=(Y4.out.below hb);rwa [oF] at this) (by have:=hl.rd;rwa [oF] at this));rw[show yU 9 (bf (uw 0)) 9 (bf (uw 0))=true from by unfold yU;rw[decide_eq_true rfl,nV];rfl] at HS;go_wp2_with fail;refine(HS.out _ ((bT _ _).alloc (bB _) _) (YL 5 (fun _ h=>h.elim) 0 (.inl rfl))).mono ?_;rintro e w6 ⟨rfl,b6⟩;have B6:=ak ((B4.out.alloc B4.out.size _).trans (b6.mono (by rw[World.size_alloc];have:=B4.out.size;omega)));clear b6;go_wp2;go_ret;exact⟨rfl,B6.out⟩
end Go.Proofs.YtpcjekgfnfjbpaaGreat
