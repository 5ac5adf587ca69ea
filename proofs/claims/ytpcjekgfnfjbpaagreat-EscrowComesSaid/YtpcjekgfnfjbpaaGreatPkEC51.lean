/- Part 51 of EscrowComes; conditions: in each theorem. -/
import Derived.Test.YtpcjekgfnfjbpaaGreatPkEC50
import Derived.Test.YtpcjekgfnfjbpaaGreatPkEC42
set_option linter.unusedVariables false
set_option linter.unusedSimpArgs false
set_option maxRecDepth 100000
set_option maxHeartbeats 6400000
namespace Go.bI
open Go.RowKit
theorem sQ {P:Program} {o:Oper} {a:Act} {w:World} {T U:TypeId} {x y:Operand} {s t:ByteArray} (ho:o.op=.binOp .eql T x y U) (hx:a.eval x=.string s) (hy:a.eval y=.string t) (hu:P.underlying T=some .string):
  (execOp a.eval o).run P w=.ok (.value (.bool (decide (s=t)))) w:=by
 have e:=aan s t;unfold execOp;simp only[ho,hx,hy];simp[go_sem,hu,e]
section
variable {P : Program} {o : Oper} {a : Act} {w : World} {K : Act -> World -> Prop} {Q : Exit -> Act -> World -> Prop} {ops : Array Oper}
theorem rV {T e:TypeId} {x y:Operand} {k:IntKind} {b off n c sz i:Nat} (ho:o.op=.indexAddr T x y) (hx:a.eval x=.slice (some ⟨b,off,none⟩) n c) (hy:a.eval y=.int k (i:Int)) (hu:P.underlying T=some (.slice e)) (hi:(P.info? e).map (·.size)=some sz)
  (h1:i<n):(execOp a.eval o).run P w=.ok (.value (.pointer (some ⟨b,off+i * sz,none⟩))) w:=by
 obtain⟨q,hi1,hi2⟩:=Option.map_eq_some_iff.1 hi;unfold execOp;simp only[ho,hx,hy];simp[Instr.indexAt,asIntOf,run_underlying hu,sizeOf,typeInfo,hi1,hi2,h1,Addr.add]
end
section
variable {w : World} {g i j n cap c : Nat} {x : Value} {A : Type} {F : Nat -> Prop} {e : TypeId} {L : List A} {q : Nat -> Nat -> Value} {a' : A} {R : (Nat -> Prop) -> World -> (Nat -> Value) -> A -> Prop}
end
end Go.bI
namespace Go.Proofs.YtpcjekgfnfjbpaaGreat
open Go.RowKit Go.bI Go.ChangeShapes Go.Maps
attribute [local go_sem ↓] Go.wp_at_zero Go.wp_at_succ
theorem _root_.Go.bI.fV.setRow (F:Nat->Prop) (w:World) (g:Nat) (cs:Array Value) (hF:F g):fV F w (w.setRow g cs):=
 have h:=aB (bT 0 w) (jm g) cs
 ⟨h.os,h.tape,h.output,h.size,fun b _ hn=>setRow_other w g b cs fun e=>hn (e▸hF)⟩
def Mi:ByteArray:=⟨#[100,114,97,119]⟩
def mh (sd:Nat->Int) (n:Nat):Nat->Int:=Gz 32 sd (vg Mi.size (fun _=>8) 1) (CO Mi.size (pX Mi) (fun _=>8) (fun _=>yX n) 1)
theorem IQ (sd:Nat->Int) (n i:Nat):0<=mh sd n i/\mh sd n i<256:=BQ _ _ _ _ i
theorem ZB (v:Value) (sd:Nat->Int) (n:Nat) (hf:∀i,i<32->0<=sd i/\sd i<256) (vc:Value) (w:World) (h:Rd .u8 w v 32 sd) (hc:uq w vc 1 (fun _=>8) (fun _=>yX n)):
  Calls Tryz.prog 120 #[v,.string Mi,vc] w fun e w'=>e=.returned (.tuple #[.agg (arr .u8 32 (mh sd n)),.int .i64 0])/\Below w.heap.size w w':=
 Mq v 32 sd Mi vc 1 (fun _=>8) (fun _=>yX n) w h aM aM hf aM hc aM (fun j hj=>by decide) (fun j hj i hi=>Oi _ _)
section
variable {B : Nat} {w w' w1 w2 w3 : World} {p q : Nat} {F G G' : Nat -> Prop} {sd : Nat -> Int} {n : Nat} {v u : Value} {l : List Int}
structure Eb (B:Nat) (w:World) (p:Nat) (sd:Nat->Int) (n:Nat):Prop where
 r:mq w p 1 sd n (.pointer none)
 sdb:∀i,i<32->0<=sd i/\sd i<256
 hp:B<=p
theorem Eb.below (h:Eb B w p sd n) (hb:Below w.heap.size w w'):Eb B w' p sd n:=⟨h.r.below hb,h.sdb,h.hp⟩
theorem Eb.lt (h:Eb B w p sd n):p<w.heap.size:=h.r.row.lt
theorem Eb.keep {H:Nat->Prop} (h:Eb B w p sd n) (hc:fV H w w') (hF:¬ H p):Eb B w' p sd n:=⟨h.r.keep hc hF,h.sdb,h.hp⟩
theorem mq.next {kd m m':Int} {s:Value} (h:mq w p kd sd m s):mq (w.setCell ⟨p,33,none⟩ (.int .i64 m')) p kd sd m' s:=by
 refine⟨h.row.setCell _ rfl _,?_,fun i hi=>?_,?_,?_⟩
 ·rw[World.cell?_setCell_other _ _ _ _ (by intro e;cases e)];exact h.ck
 ·rw[World.cell?_setCell_other _ _ _ _ (by intro e;have:=congrArg Addr.off e;simp only at this;omega)];exact h.cs i hi
 ·exact World.cell?_setCell_same _ _ _ h.cn
 ·rw[World.cell?_setCell_other _ _ _ _ (by intro e;cases e)];exact h.cp
theorem Eb.next (h:Eb B w p sd n) {m:Nat}:Eb B (w.setCell ⟨p,33,none⟩ (.int .i64 (m:Int))) p sd m:=⟨h.r.next,h.sdb,h.hp⟩
theorem Eb.ajZ (h:Eb B w p sd n) (m:Int):lg p (fun _=>False) w (w.setCell ⟨p,33,none⟩ (.int .i64 m)):=
 ⟨.set _ _ _ _ (.inl rfl),fun b hb _ i x hx=>by
  rw[World.cell?_setCell_other _ _ _ _ (by intro e;cases e;rw[h.r.cn] at hx;cases hx)];exact hx⟩
theorem uE {f:Nat->Int} (h:Rd .u8 w v 32 f):Calls Tryz.prog 64 #[v] w fun e w'=>e=.returned (.tuple #[.agg (arr .u8 32 f),.int .i64 0])/\Below w.heap.size w w':=by
 obtain⟨a,c,rfl,h1,h2,_,h4⟩:=h;obtain⟨b,o,rfl,hlt,hc⟩:=h4 aM;have HC:=ay hc;have wN:=ay hlt;clear h4 hc hlt
 go_enter Tryz.func64,Tryz.ntmps64
 go_upto_region 1 with(fail);refine aJ (fun w1=>aK .u8 w1 w.heap.size 32 (fun _=>0)/\Below w.heap.size w w1) ⟨cB rfl (by rfl),(bT _ _).alloc (bH _) _⟩ ?_;rintro w1 ⟨hZ,aD⟩;have Bw:Hid (∀i,i<32->w1.cell? ⟨b,o+i,none⟩=some (.int .u8 (f i))):=ay fun i hi=>(aD.cell (p:=⟨b,o+i,none⟩) wN.out).trans (HC.out i hi);have HZ:=ay hZ;have HB:=ay aD;have ha:∀w,(Instr.arrayAt 22 (.slice (some ⟨b,o,none⟩) 32 c)).run Tryz.prog w=.ok (.pointer (some ⟨b,o,none⟩)) w:=fun w=>lN (P:=Tryz.prog) (T:=22) (a:=some ⟨b,o,none⟩) (len:=32) (cap:=c) (n:=32) iL aM w;clear hZ aD
 go_wp2_with (first
  | (refine oz rfl 22 _ rfl .u8 b o 32 f 5 iL fZ rfl (fun i hi=>Bw.out i hi) ?_)
  | (refine aL rfl 22 _ _ rfl .u8 w.heap.size 32 (fun _=>0) f fZ rfl rfl HZ.out ?_))
 exact bodyPost_ret (gZ rfl _ _ .u8 w.heap.size 32 _ 5 rfl (HZ.out.setRow _ _) iL fZ) rfl ⟨rfl,aB HB.out (bH _) _⟩
theorem xk {m:Nat} {f:Nat->Int} (h:Rd .u8 w v m f) (hm:m≠32):Calls Tryz.prog 64 #[v] w fun e w'=>e=.returned (.tuple #[.agg (arr .u8 32 (fun _=>0)),.int .i64 11])/\Below w.heap.size w w':=by
 obtain⟨a,c,rfl,h1,h2,_,h4⟩:=h;have hm':((m:Int) !=32)=true:=by simp;omega
 clear h4 hm
 go_enter Tryz.func64,Tryz.ntmps64
 go_upto_region 1 with(fail);refine aJ (fun w1=>aK .u8 w1 w.heap.size 32 (fun _=>0)/\Below w.heap.size w w1) ⟨cB rfl (by rfl),(bT _ _).alloc (bH _) _⟩ ?_;rintro w1 ⟨hZ,aD⟩;have HZ:=ay hZ;have HB:=ay aD;clear hZ aD;go_wp2_with (refine aL rfl 22 _ _ rfl .u8 w.heap.size 32 (fun _=>0) (fun _=>0) fZ rfl (by rfl) HZ.out ?_);exact bodyPost_ret (gZ rfl _ _ .u8 w.heap.size 32 _ 5 rfl (HZ.out.setRow _ _) iL fZ) rfl ⟨rfl,aB HB.out (bH _) _⟩
theorem zP (h:Eb B w p sd n) (hn:n<=100000):Calls Tryz.prog 66 #[.pointer (some ⟨p,0,none⟩)] w fun e w'=>e=.returned (.agg (arr .u8 32 (mh sd n)))/\Eb B w' p sd (n+1)/\lg p (fun _=>False) w w':=by
 have H:=ay h;have HN:=ay hn;have cn:=h.r.cn;have HPN:Hid (p<w.heap.size):=ay h.r.row.lt;clear h hn
 go_enter Tryz.func66,Tryz.ntmps66
 clear cn;go_upto_region 1 with(fail);refine aJ (fun w1=>aK .u8 w1 w.heap.size 32 (fun _=>0)/\Below w.heap.size w w1) ⟨cB rfl (by rfl),(bT _ _).alloc (bH _) _⟩ ?_;rintro w1 ⟨hZ,aD⟩;have H1:=ay (H.out.below aD);have cn:=H1.out.r.cn;have HZ:=ay hZ;have HB:=ay aD;clear hZ aD;go_wp2_with fail;refine(Oh (n:Int) 8 w1 aM aM aH (by have:=HN.out;omega) (aP)).mono ?_;rintro e w2 ⟨u,rfl,hu,b2⟩;have HU:=ay hu.rd;obtain⟨au,cu,rfl,_⟩:=hu.rd;have H2:=ay (H1.out.below b2);have HZ2:=ay (HZ.out.kept b2);have HB2:=ay (HB.out.trans (b2.mono HB.out.size));clear hu b2 cn;go_wp2_with fail;have BA:=(bT w2.heap.size w2).alloc (bH _) (.cells [Value.slice au 8 cu].toArray 23);refine(ZB _ sd n H2.out.sdb _ _ (H2.out.r.below BA).rd (new1 HU.out (bT _ _))).mono ?_;rintro e w3 ⟨rfl,b3⟩;have B3:=ay (BA.trans (b3.mono (by rw[World.size_alloc];omega)));have H3:=ay (H2.out.below B3.out);have HZ3:=ay (HZ2.out.kept B3.out);have HB3:=ay (HB2.out.trans (B3.out.mono HB2.out.size));clear b3 BA;obtain⟨D,hD⟩:∃D,D=mh sd n:=⟨_,rfl⟩
 rw[<-hD];have VW:=ay hD;clear hD;go_upto_region 3 with(refine aL rfl 22 _ _ rfl .u8 w3.heap.size 32 (fun _=>0) D fZ rfl rfl (cB rfl (by rfl)) ?_);refine aJ (fun w4=>aK .u8 w4 w.heap.size 32 (fun _=>0)/\aK .u8 w4 w3.heap.size 32 D/\Below w3.heap.size w3 w4) ⟨(HZ3.out.alloc _).aC _ (Nat.ne_of_lt HZ3.out.lt) _,(show aK .u8 (w3.alloc (.cells (arr .u8 32 (fun _=>0)) 22)) w3.heap.size 32 (fun _=>0) from cB rfl rfl).setRow 32 D,aB ((bT _ _).alloc (bH _) _) (bH _) _⟩ ?_;rintro w4 ⟨h4,h5,aD⟩;have H4:=ay (H3.out.below aD);have HB4:=ay (HB3.out.trans (aD.mono HB3.out.size));have HZ4:=ay h4;have HD4:=ay h5;have HPL:Hid (p<w.heap.size/\w.heap.size<w3.heap.size):=ay ⟨HPN.out,HZ3.out.lt⟩;clear h4 h5 aD;have cn:=H4.out.r.cn;have fr:=H4.out.r.row.free 33;have hnb:(n:Int)<1000000:=by have:=HN.out;omega
 go_upto_region 4 with(fail);have CS:=H4.out.ajZ ((n:Int)+1);refine aJ (fun w5=>Eb B w5 p sd (n+1)/\aK .u8 w5 w.heap.size 32 (fun _=>0)/\aK .u8 w5 w3.heap.size 32 D/\lg p (fun _=>False) w w5) ⟨H4.out.next (m:=n+1),HZ4.out.gL CS.gL (fun e=>e.elim (fun e=>by have:=HPL.out;omega) id),HD4.out.gL CS.gL (fun e=>e.elim (fun e=>by have:=HPL.out;omega) id),(lg.of_below HB4.out _).trans CS fun _ h=>h.elim⟩ ?_;rintro w5 ⟨h5,hz5,hd5,c5⟩;have H5:=ay h5;have HZ5:=ay hz5;have HD5:=ay hd5;have C5:=ay c5;clear h5 hz5 hd5 c5 CS cn fr hnb
 go_wp2_with (first
  | (refine aZ rfl 22 _ rfl .u8 w3.heap.size 32 D 5 iL fZ rfl HD5.out ?_)
  | (refine aL rfl 22 _ _ rfl .u8 w.heap.size 32 (fun _=>0) D fZ rfl rfl HZ5.out ?_))
 obtain rfl:=VW.out;have CR:=fV.setRow (fun b=>b=w.heap.size) w5 w.heap.size (arr .u8 32 (mh sd n)) rfl;exact bodyPost_ret (bV rfl _ _ .u8 w.heap.size 32 _ 5 rfl (HZ5.out.setRow _ _) iL fZ) rfl ⟨rfl,H5.out.keep CR fun e=>by have:=HPL.out;omega,C5.out.trans (lg.OA CR) fun b e=>.inr aH⟩
end
inductive Su where
 | by(sd:Nat->Int) (n:Nat)
 | tm (S:TS)
def Su.size:Su->Nat
 | .by _ n=>n
 | .tm S=>S.l.length
abbrev UA:Type:=List Int × Int × Su
def uW (B:Nat) (w:World) (p:Nat) (F:Nat->Prop):Su->Prop
 | .by sd n=>Eb B w p sd n/\∀b,¬ F b
 | .tm S=>pF B w p F S
section
variable {B : Nat} {w w' w1 w2 w3 : World} {p q : Nat} {F F' G G' : Nat -> Prop} {sd : Nat -> Int} {n : Nat} {v u v' : Value} {l l' : List Int} {X X' : Su} {S : TS}
theorem uW.below (h:uW B w p F X) (hb:Below w.heap.size w w'):uW B w' p F X:=by
 cases X with
 | «by» sd n=>exact⟨h.1.below hb,h.2⟩
 | tm S=>exact pF.below h hb
theorem pF.pLt (h:pF B w p F S):p<w.heap.size/\B<=p:=by obtain⟨q,G,h,_⟩:=h;exact⟨h.r.row.lt,h.hp⟩
theorem uW.pLt (h:uW B w p F X):p<w.heap.size/\B<=p:=by
 cases X with
 | «by» sd n=>exact⟨h.1.lt,h.1.hp⟩
 | tm S=>exact pF.pLt h
theorem uW.lt (h:uW B w p F X) {b:Nat} (hb:b=p\/F b):b<w.heap.size:=by
 rcases hb with rfl | hb
 ·exact h.pLt.1
 ·cases X with
  | «by» sd n=>exact absurd hb (h.2 b)
  | tm S=>exact pF.lt h hb
theorem uW.hi (h:uW B w p F X) {b:Nat} (hb:b=p\/F b):B<=b:=by
 rcases hb with rfl | hb
 ·exact h.pLt.2
 ·cases X with
  | «by» sd n=>exact absurd hb (h.2 b)
  | tm S=>exact pF.hi h hb
theorem uW.keep {H:Nat->Prop} (h:uW B w p F X) (hc:fV H w w') (hp:¬ H p) (hF:∀b,F b->¬ H b):uW B w' p F X:=by
 cases X with
 | «by» sd n=>exact⟨h.1.keep hc hp,h.2⟩
 | tm S=>exact pF.keep h hc hF
def VR (B:Nat) (w:World) (p:Nat) (F:Nat->Prop) (v:Value) (r:UA) (w':World):Prop:=∃F',uW B w' p F' r.2.2/\eG F' w' v r.1/\lg p F w w'/\∀b,F' b->F b\/w.heap.size<=b
theorem AU.su {r:TA} (h:AU B w p F v r w'):VR B w p F v (r.1,r.2.1,.tm r.2.2) w':=by
 obtain⟨F',h1,h2,h3,h4⟩:=h;exact⟨F',h1,h2,lg.OA h3,h4⟩
theorem eG.any {f:Nat->Int} {m:Nat} (h:Rd .u8 w v m f) (hf:∀i,i<m->0<=f i/\f i<256) (hF:∀b,¬ F b):eG F w v (qE m f):=⟨Bf hf,h.qE,fun _ b _=>hF b⟩
def EA (g:(Nat->Int)->Nat->Int) (sd:Nat->Int) (n:Nat) (l:List Int):UA:=if l.length=32 then (qE 32 (g (bf l)),0,.by sd n) else ([],11,.by sd n)
def Su.draw:Su->Int->UA
 | .by sd n,s=>if isSort s=true then (qE 32 (mh sd n),0,.by sd (n+1)) else ([],2,.by sd n)
 | .tm S,s=>((kX S s).1,(kX S s).2.1,.tm (kX S s).2.2)
theorem wZ (h:uW B w p F (.by sd n)) (hb:Below w.heap.size w w') (er:Int):VR B w p F (.slice none 0 0) ([],er,.by sd n) w':=
 ⟨F,⟨h.1.below hb,h.2⟩,eG.nil _ _,.of_below hb _,fun b hb=>.inl hb⟩
theorem GK {m k:Nat} {f:Nat->Int} (h:uW B w p F (.by sd n)) (hs:Eb B w1 p sd k) (hc:lg p (fun _=>False) w w1) (hr:Rd .u8 w1 v m f) (hf:∀i,i<m->0<=f i/\f i<256) (er:Int):VR B w p F v (qE m f,er,.by sd k) w1:=
 ⟨F,⟨hs,h.2⟩,eG.any hr hf h.2,⟨hc.gL.mono fun b _ hb=>hb.imp id fun h=>h.elim,fun b hb _=>hc.u8 b hb id⟩,fun b hb=>.inl hb⟩
theorem SG (h:uW B w p F (.by sd n)) (s:Int) (hn:n<=900):Calls Tryz.prog 26 #[.pointer (some ⟨p,0,none⟩),.int .i64 s] w fun e w'=> ∃u,e=.returned (.tuple #[u,.int .i64 (Su.draw (.by sd n) s).2.1])/\VR B w p F u (Su.draw (.by sd n) s) w':=by
 have HQ:=ay h;have HL:=ay hn;have HW:=ay (gF h.1.r);obtain⟨R,hR⟩:∃x,x=Su.draw (.by sd n) s:=⟨_,rfl⟩
 rw[<-hR];have HR:=ay hR;have ck:=h.1.r.ck;clear hR h hn;by_cases hs:1<=s/\s<=4
 ·have HS:Hid (isSort s=true):=ay (by unfold isSort;rw[decide_eq_true hs.1,decide_eq_true hs.2];rfl);have HE:Hid (R=(qE 32 (mh sd n),0,.by sd (n+1))):=ay (by rw[HR.out];exact if_pos HS.out);have h1:decide (s<1)=false:=decide_eq_false aH;have h2:decide (4<s)=false:=decide_eq_false aH;clear hs
  go_enter Tryz.func26,Tryz.ntmps26
  go_wp2_with fail;refine HW.out.mono ?_;rintro e w1 ⟨rfl,rfl⟩;go_wp2_with fail;refine(zP HQ.out.1 (by have:=HL.out;omega)).mono ?_;rintro e w2 ⟨rfl,h2,c2⟩;have H2:=ay h2;have C2:=ay c2;clear h2 c2 ck;obtain⟨D,hD⟩:∃D,D=mh sd n:=⟨_,rfl⟩
  rw[<-hD] at HE ⊢;have HDB:Hid (∀i,i<32->0<=D i/\D i<256):=ay fun i _=>hD▸IQ sd n i;clear hD;go_upto_region 8 with(refine aL rfl 22 _ _ rfl .u8 w2.heap.size 32 (fun _=>0) D fZ rfl rfl (cB rfl (by rfl)) ?_);refine aJ (fun w4=>aK .u8 w4 w2.heap.size 32 D/\Below w2.heap.size w2 w4) ⟨(show aK .u8 (w2.alloc (.cells (arr .u8 32 (fun _=>0)) 22)) w2.heap.size 32 (fun _=>0) from cB rfl rfl).setRow 32 D,aB ((bT _ _).alloc (bH _) _) (bH _) _⟩ ?_;rintro w4 ⟨h4,b4⟩;have HD:=ay (GK HQ.out (H2.out.below b4) (C2.out.trans (lg.of_below b4 (fun _=>False)) fun _ h=>.inl h) (h4.rd aM) HDB.out 0);clear h4 b4;go_wp2;go_ret2;rw[HE.out];exact⟨_,rfl,HD.out⟩
 ·have HE:Hid (R=([],2,.by sd n)):=ay (by
   rw[HR.out];refine if_neg fun h=>?_;simp only[isSort,Jg,decide_eq_true_eq] at h;exact hs h)
  by_cases h1:s<1
  ·have h1':decide (s<1)=true:=decide_eq_true h1;clear hs h1
   go_enter Tryz.func26,Tryz.ntmps26
   go_wp2_with fail;refine HW.out.mono ?_;rintro e w1 ⟨rfl,rfl⟩;go_wp2;go_ret2;rw[HE.out];exact⟨_,rfl,wZ HQ.out (bT _ _) 2⟩
  ·have h1':decide (s<1)=false:=decide_eq_false h1;have h2':decide (4<s)=true:=decide_eq_true aH;clear hs h1
   go_enter Tryz.func26,Tryz.ntmps26
   go_wp2_with fail;refine HW.out.mono ?_;rintro e w1 ⟨rfl,rfl⟩;go_wp2;go_ret2;rw[HE.out];exact⟨_,rfl,wZ HQ.out (bT _ _) 2⟩
end
section
variable {B : Nat} {w w' w1 w2 w3 : World} {p q : Nat} {F F' G G' : Nat -> Prop} {sd : Nat -> Int} {n : Nat} {v u v' : Value} {l l' : List Int} {X X' X'' : Su} {S S' : TS}
theorem NQ (h:uW B w p F X) (s:Int) (hn:X.size<=900):Calls Tryz.prog 26 #[.pointer (some ⟨p,0,none⟩),.int .i64 s] w fun e w'=> ∃u,e=.returned (.tuple #[u,.int .i64 (X.draw s).2.1])/\VR B w p F u (X.draw s) w':=by
 cases X with
 | «by» sd n=>exact SG h s hn
 | tm S=>exact(Fv h s hn).mono fun e w' ⟨u,h1,h2⟩=>⟨u,h1,h2.su⟩
theorem JG {n m:Nat} (hn:n<=1000000) (hm:m<=1000000) (h:eP n=eP m):n=m:=by
 have h1:=(BK (n:=(n:Int)) aH aH).2;have h2:=(BK (n:=(m:Int)) aH aH).2;rw[h] at h1;omega
theorem Ht (h:S.Ok) {t:Tm} (ht:nV S t=true):∃k:Nat,(nU S t).1=k/\(S.put t).l[k]? =some t/\k<(S.put t).l.length:=by
 unfold nU TS.put;rw[if_pos ht];by_cases hin:t ∈ S.l
 ·rw[if_pos hin,if_neg (fun h=>h.2 hin)];exact⟨kQ S.l t,rfl,jH hin,qh hin⟩
 ·rw[if_neg hin,if_pos ⟨ht,hin⟩];refine⟨S.l.length,rfl,?_,by rw[yF];omega⟩;show (S.l++ [t])[S.l.length]? =some t;rw[Ji (bH _),Nat.sub_self]
  rfl
theorem wB (t:Tm):S.l <+:(S.put t).l/\S.tx <+:(S.put t).tx:=by
 unfold TS.put
 split
 ·exact⟨List.prefix_append _ _,List.prefix_refl _⟩
 ·exact⟨List.prefix_refl _,List.prefix_refl _⟩
theorem twin (h:S.Ok) {m k:Nat} {t:Tm} (h1:S.l[m]? =some t) (h2:S.l[k]? =some t):m=k:=by
 have e1:=za h.nd h1;have e2:=za h.nd h2;omega
theorem KX {key nonce:Nat->Int} {nb n:Nat} {fb f g:Nat->Int} (h:∀i,i<n+16->f i=g i):tC key nonce nb fb n f=tC key nonce nb fb n g:=by
 unfold tC;rw[DJ (fun _ _=>rfl) fun i hi=>h i aH];unfold mY;refine decide_eq_decide.2 ⟨fun h1 i hi=>?_,fun h1 i hi=>?_⟩
 ·exact(h1 i hi).trans (h (n+i) aH)
 ·exact(h1 i hi).trans (h (n+i) aH).symm
end
end Go.Proofs.YtpcjekgfnfjbpaaGreat
namespace Go.Proofs.YtpcjekgfnfjbpaaGreat
open Go.RowKit Go.bI Go.ChangeShapes Go.Maps
section
variable {B : Nat} {w w' : World} {p : Nat} {F : Nat -> Prop} {v u : Value} {S S' : TS} {l l' : List Int} {r : TA}
theorem xL (k:Int) (S:TS) (l:List Int):(iB k S l).2.2.l.length<=S.l.length+1:=by
 unfold iB
 split
 ·exact(xG _ _).1
 ·exact Nat.le_succ _
theorem JI (k:Int) (S:TS) (a b:List Int):(lQ k S a b).2.2.l.length<=S.l.length+1:=by
 unfold lQ
 split
 ·split
  ·exact Nat.le_succ _
  ·exact(xG _ _).1
 ·exact Nat.le_succ _
theorem FX (S:TS) (s:Int):(kX S s).2.2.l.length<=S.l.length+1:=by
 unfold kX
 split
 ·show (S.draw s).l.length<=_;unfold TS.draw
  split
  ·exact Nat.le_of_eq (yF _ _)
  ·exact Nat.le_succ _
 ·exact Nat.le_succ _
theorem AU.res (h:AU B w p F u r w'):∃F',pF B w' p F' r.2.2/\eG F' w' u r.1/\lg p F w w'/\∀b,F' b->F b\/w.heap.size<=b:=by
 obtain⟨F',h1,h2,h3,h4⟩:=h;exact⟨F',h1,h2,lg.OA h3,h4⟩
def dM (B:Nat):kS B where
 σ:=TS
 M:=fun w p F X=>pF B w p F X
 sz:=fun X=>X.l.length
 pub:=iB 2
 ver:=iB 3
 DZ:=eF
 below:=fun h hb=>pF.below h hb
 lt:=fun h hb=>hb.elim (fun e=>e▸(pF.pLt h).1) (pF.lt h)
 hi:=fun h hb=>hb.elim (fun e=>e▸(pF.pLt h).2) (pF.hi h)
 keep:=fun h hc _ hF=>pF.keep h hc hF
 szP:=fun X l=>xL 2 X l
 szV:=fun X l=>xL 3 X l
 ado:=fun h hb hl=>(zO h hb hl).mono fun e w' ⟨u,h1,h2⟩=>⟨u,h1,h2.res⟩
 adn:=fun h hb hl=>(vF h hb hl).mono fun e w' ⟨u,h1,h2⟩=>⟨u,h1,h2.res⟩
 ahL:=fun h hb hb' _ hl=>zM h hb hb' (iw hl aM)
 mg:=kX
 rT:=lQ 4
 szD:=fun X s=>FX X s
 szW:=fun X a b=>JI 4 X a b
 ahM:=fun s h hl=>(Fv h s hl).mono fun e w' ⟨u,h1,h2⟩=>⟨u,h1,h2.res⟩
 ahK:=fun h hb hb' _ hl=>(Fq h hb hb' hl).mono fun e w' ⟨u,h1,h2⟩=>⟨u,h1,h2.res⟩
def pW:Nat->TS
 | 0=>⟨[], []⟩
 | n+1=>⟨(pW n).l++ [(1,1,(n:Int)),(2,3 * (n:Int),0),(3,3 * (n:Int),0)], []⟩
def psT (i:Nat):mD:=⟨dW i,eP ((3 * i+1:Nat):Int),eP ((3 * i+2:Nat):Int)⟩
def fA (i:Nat):List Int:=eP ((3 * i:Nat):Int)
def xE:Nat->List mD
 | 0=> []
 | n+1=>xE n++ [psT n]
def QH:Nat->List (List Int)
 | 0=> []
 | n+1=>QH n++ [fA n]
theorem sI (n:Nat) (hn:n<5):∃A C,kX (pW n) 1=(fA n,0,A)/\iB 2 A (fA n)=((psT n).pb,0,C)/\iB 3 C (fA n)=((psT n).vf,0,pW (n+1)):=by
 refine⟨⟨(pW n).l++ [(1,1,(n:Int))], []⟩,⟨(pW n).l++ [(1,1,(n:Int)),(2,3 * (n:Int),0)], []⟩,?_⟩;rcases(by omega:n=0\/n=1\/n=2\/n=3\/n=4) with rfl | rfl | rfl | rfl | rfl<;> exact⟨by kernel_rfl,by kernel_rfl,by kernel_rfl⟩
theorem Wx (B:Nat):∀n,n<=5->(dM B).usr ⟨[], []⟩ n=(pW n,xE n,QH n)
 | 0,_=>rfl
 | n+1,hn=>by
  have h0:=Wx B n aH;obtain⟨A,C,h1,h2,h3⟩:=sI n aH;have e1:(dM B).mg ((dM B).usr ⟨[], []⟩ n).1 1=(fA n,0,A):=by rw[h0];exact h1
  have e2:(dM B).pub A (fA n)=((psT n).pb,0,C):=h2;have e3:(dM B).ver C (fA n)=((psT n).vf,0,pW (n+1)):=h3;show (((dM B).ver ((dM B).pub ((dM B).mg ((dM B).usr ⟨[], []⟩ n).1 1).2.2 ((dM B).mg ((dM B).usr ⟨[], []⟩ n).1 1).1).2.2 ((dM B).mg ((dM B).usr ⟨[], []⟩ n).1 1).1).2.2,_,_)= _;rw[e1];show (((dM B).ver ((dM B).pub A (fA n)).2.2 (fA n)).2.2,((dM B).usr ⟨[], []⟩ n).2.1++ [⟨dW n,((dM B).pub A (fA n)).1,((dM B).ver ((dM B).pub A (fA n)).2.2 (fA n)).1⟩],((dM B).usr ⟨[], []⟩ n).2.2++ [fA n])= _;rw[e2];show (((dM B).ver C (fA n)).2.2,((dM B).usr ⟨[], []⟩ n).2.1++ [⟨dW n,(psT n).pb,((dM B).ver C (fA n)).1⟩],((dM B).usr ⟨[], []⟩ n).2.2++ [fA n])= _;rw[e3,h0]
  rfl
theorem abj (B:Nat):(dM B).JH ⟨[], []⟩:=fun n hn=>by
 have h0:=Wx B n aH;obtain⟨A,C,h1,h2,h3⟩:=sI n hn;have e1:(dM B).mg ((dM B).usr ⟨[], []⟩ n).1 1=(fA n,0,A):=by rw[h0];exact h1
 have e2:(dM B).pub A (fA n)=((psT n).pb,0,C):=h2;have e3:(dM B).ver C (fA n)=((psT n).vf,0,pW (n+1)):=h3;rw[e1];refine⟨rfl,?_,?_⟩
 ·show ((dM B).pub A (fA n)).2.1=0;rw[e2]
 ·show ((dM B).ver ((dM B).pub A (fA n)).2.2 (fA n)).2.1=0;rw[e2];show ((dM B).ver C (fA n)).2.1=0;rw[e3]
theorem Bg {i j:Nat} (hi:i<5) (hj:j<5) (h:dW i=dW j):i=j:=by
 have h:(dW i).data=(dW j).data:=by rw[h]
 rcases(by omega:i=0\/i=1\/i=2\/i=3\/i=4) with rfl | rfl | rfl | rfl | rfl<;> rcases(by omega:j=0\/j=1\/j=2\/j=3\/j=4) with rfl | rfl | rfl | rfl | rfl<;> first | rfl | exact absurd h aM
theorem He {i:Nat} (hi:i<5):(xE 5)[i]? =some (psT i):=by
 rcases(by omega:i=0\/i=1\/i=2\/i=3\/i=4) with rfl | rfl | rfl | rfl | rfl<;> rfl
theorem afw {i:Nat} (hi:i<5):(QH 5)[i]? =some (fA i):=by
 rcases(by omega:i=0\/i=1\/i=2\/i=3\/i=4) with rfl | rfl | rfl | rfl | rfl<;> rfl
theorem WA {i:Nat} (hi:i<5):(pW 5).l[3 * i]? =some (1,1,(i:Int))/\(pW 5).l[3 * i+1]? =some (2,((3 * i:Nat):Int),0)/\(pW 5).l[3 * i+2]? =some (3,((3 * i:Nat):Int),0):=by
 rcases(by omega:i=0\/i=1\/i=2\/i=3\/i=4) with rfl | rfl | rfl | rfl | rfl<;> exact⟨rfl,rfl,rfl⟩
theorem afK {i:Nat} (hi:i<5):mG (xE 5) (dW i)=(psT i,true):=by
 have e:Bq ((xE 5).map (·.nm)) (dW i)=i:=Bo (by rw[List.getElem?_map,He hi];rfl) fun j a hj ha=>by
  rw[List.getElem?_map,He aH] at ha;obtain rfl:dW j=a:=gJ ha;exact fun h=>by have:=Bg aH hi h;omega
 unfold mG;rw[e,He hi]
end
end Go.Proofs.YtpcjekgfnfjbpaaGreat
namespace Go.Proofs.YtpcjekgfnfjbpaaGreat
open Go.RowKit Go.bI Go.ChangeShapes Go.Maps
attribute [local go_sem ↓] Go.wp_at_zero Go.wp_at_succ
def Ap (kd:Int) (sd:Nat->Int) (s:Value):Array Value:=(.int .i64 kd::(vals .u8 32 sd++ [.int .i64 0,s])).toArray
theorem aft (kd:Int) (sd:Nat->Int) (s:Value):(Ap kd sd s)[0]? =some (.int .i64 kd):=rfl
theorem afs (kd:Int) (sd:Nat->Int) (s:Value) {i:Nat} (h:i<32):(Ap kd sd s)[1+i]? =some (.int .u8 (sd i)):=by
 unfold Ap;rw[List.getElem?_toArray,Nat.add_comm,List.getElem?_cons_succ,Jh (by simpa using h)];exact dF h
theorem abu (kd:Int) (sd:Nat->Int) (s:Value):(Ap kd sd s)[33]? =some (.int .i64 0):=rfl
theorem abt (kd:Int) (sd:Nat->Int) (s:Value):(Ap kd sd s)[34]? =some s:=rfl
theorem mq.new (w:World) (kd:Int) (sd:Nat->Int) (s:Value):mq (w.alloc (.cells (Ap kd sd s) 105)) w.heap.size kd sd 0 s:=by
 have hb:=heap_alloc_new w (.cells (Ap kd sd s) 105);have hc:=fun i=>cell_of_row _ _ i _ _ (0,0) hb;exact⟨⟨_,hb,rfl⟩,(hc 0).trans (aft _ _ _),fun i hi=>(hc (1+i)).trans (afs _ _ _ hi),(hc 33).trans (abu _ _ _),(hc 34).trans (abt _ _ _)⟩
theorem zH.base {B B':Nat} {w:World} {p:Nat} {F:Nat->Prop} {S:TS} (h:zH B w p F S) (hB:B'<=B):zH B' w p F S:=by
 obtain⟨mb,mt,vl,vb,tv,h1,h2,h3⟩:=h;exact⟨mb,mt,vl,vb,tv,⟨⟨h1.row,h1.c0,h1.c1,h1.c2,h1.c3,h1.nx,h1.ls,h1.am,h1.xm,h1.bs,fun j b hb=>(h1.bt j b hb).mono hB,h1.ne,iw hB h1.hp,iw hB h1.hb,iw hB h1.hm,fun b hb=>iw hB (h1.hl b hb),fun b hb=>iw hB (h1.hv b hb)⟩,h1.nd,h1.txn,h1.all,h1.okt,h1.okx⟩,h2,h3⟩
theorem pF.base {B B':Nat} {w:World} {p:Nat} {F:Nat->Prop} {S:TS} (h:pF B w p F S) (hB:B'<=B):pF B' w p F S:=by
 obtain⟨q,G,h,hF⟩:=h;exact⟨q,G,⟨h.r,h.st.base hB,h.few,iw hB h.hp,h.np⟩,hF⟩
theorem zN (w:World):Calls Tryz.prog 44 #[] w fun e w'=> ∃p F,e=.returned (.pointer (some ⟨p,0,none⟩))/\pF w.heap.size w' p F ⟨[], []⟩/\Below w.heap.size w w':=by
 go_enter Tryz.func44,Tryz.ntmps44
 go_wp2_with fail;refine(WK w).mono ?_;rintro e w1 ⟨q,G,rfl,h1,b1⟩;have H1:=ay h1;have B1:=ay b1;clear h1 b1;go_wp2;go_ret;have hr:=mq.new w1 2 (fun _=>0) (.pointer (some ⟨q,0,none⟩));have ba:=(bT w1.heap.size w1).alloc (bH _) (.cells (Ap 2 (fun _=>0) (.pointer (some ⟨q,0,none⟩))) 105);exact⟨_,fun b=>b=w1.heap.size\/G b,rfl,⟨q,G,⟨hr,H1.out.below ba,TS.few.nil,B1.out.size,fun hg=>by have:=H1.out.lt hg;omega⟩,fun _=>Iff.rfl⟩,B1.out.trans (ba.mono B1.out.size)⟩
theorem Uq (sd:Nat->Int):Array.foldl (fun(cs:Array Value) (x:Value × Nat)=>cs.setIfInBounds (1+x.snd) x.fst) #[.int .i64 1,.int .u8 0,.int .u8 0,.int .u8 0,.int .u8 0,.int .u8 0,.int .u8 0,.int .u8 0,.int .u8 0,.int .u8 0,.int .u8 0,.int .u8 0,.int .u8 0,.int .u8 0,.int .u8 0,.int .u8 0,.int .u8 0,.int .u8 0,.int .u8 0,.int .u8 0,.int .u8 0,.int .u8 0,.int .u8 0,.int .u8 0,.int .u8 0,.int .u8 0,.int .u8 0,.int .u8 0,.int .u8 0,.int .u8 0,.int .u8 0,.int .u8 0,.int .u8 0,.int .i64 0,.pointer none] (arr .u8 32 sd).zipIdx 0 32=Ap 1 sd (.pointer none):=by kernel_rfl
theorem Kg (sd:Nat->Int) (hs:∀i,i<32->0<=sd i/\sd i<256) (w:World):Calls Tryz.prog 12 #[.agg (arr .u8 32 sd)] w fun e w'=> ∃p,e=.returned (.pointer (some ⟨p,0,none⟩))/\Eb w.heap.size w' p sd 0/\Below w.heap.size w w':=by
 have HS:=ay hs;clear hs
 go_enter Tryz.func12,Tryz.ntmps12
 go_upto_region 1 with(fail);refine aJ (fun w1=>aK .u8 w1 w.heap.size 32 sd/\Below w.heap.size w w1) ⟨cB rfl rfl,(bT _ _).alloc (bH _) _⟩ ?_;rintro w1 ⟨h1,b1⟩;have H1:=ay h1;have B1:=ay b1;clear h1 b1;go_wp2_with (refine aZ rfl 22 _ rfl .u8 w.heap.size 32 sd 5 iL fZ rfl H1.out ?_);rw[Uq];go_ret;have hr:=mq.new w1 1 sd (.pointer none);have ba:=(bT w1.heap.size w1).alloc (bH _) (.cells (Ap 1 sd (.pointer none)) 105);have HR:Hid (Eb w.heap.size (w1.alloc (.cells (Ap 1 sd (.pointer none)) 105)) w1.heap.size sd 0/\Below w.heap.size w (w1.alloc (.cells (Ap 1 sd (.pointer none)) 105))):=ay ⟨⟨hr,HS.out,B1.out.size⟩,B1.out.trans (ba.mono B1.out.size)⟩;exact⟨w1.heap.size,rfl,HR.out⟩
def Vj (b:Bool) (sd:Nat->Int):Value:=.agg (.bool b::vals .u8 32 sd).toArray
def Su.new (b:Bool) (sd:Nat->Int):Su:=if b then .by sd 0 else .tm ⟨[], []⟩
theorem Su.XT (b:Bool) (sd:Nat->Int):(Su.new b sd).size=0:=by cases b<;> rfl
theorem SC (b:Bool) (sd:Nat->Int) (hs:∀i,i<32->0<=sd i/\sd i<256) (w:World):Calls Tryz.prog 49 #[Vj b sd] w fun e w'=> ∃p F,e=.returned (.pointer (some ⟨p,0,none⟩))/\uW w.heap.size w' p F (Su.new b sd)/\Below w.heap.size w w':=by
 have HS:=ay hs;clear hs;obtain⟨V,hV⟩:∃V,V=Vj b sd:=⟨_,rfl⟩
 have HV:=ay hV;rw[<-hV];clear hV
 go_enter Tryz.func49,Tryz.ntmps49
 obtain rfl:=HV.out;go_upto_region 1 with(fail);refine aJ (fun w1=>w1.cell? ⟨w.heap.size,0,none⟩=some (.bool b)/\(∀i,i<32->w1.cell? ⟨w.heap.size,1+i,none⟩=some (.int .u8 (sd i)))/\Below w.heap.size w w1) ⟨cell_of_row _ _ 0 _ _ (0,0) (heap_alloc_new w _),fun i hi=>(cell_of_row _ _ (1+i) _ _ (0,0) (heap_alloc_new w _)).trans (show (Value.bool b::vals .u8 32 sd).toArray[1+i]? = _ from by rw[List.getElem?_toArray,Nat.add_comm,List.getElem?_cons_succ];exact dF hi),(bT _ _).alloc (bH _) _⟩ ?_;rintro w1 ⟨c0,c1,b1⟩;have C1:=ay c1;have B1:=ay b1;clear c1 b1
 cases b with
 | true=>
  go_wp2_with (refine oz rfl 22 _ rfl .u8 w.heap.size 1 32 sd 5 iL fZ rfl (fun i hi=>C1.out i hi) ?_);refine(Kg sd HS.out w1).mono ?_;rintro e w2 ⟨p,rfl,h2,b2⟩;have H2:=ay h2;have B2:=ay b2;clear h2 b2;go_wp2;go_ret;exact⟨p,fun _=>False,rfl,⟨⟨H2.out.r,H2.out.sdb,iw B1.out.size H2.out.hp⟩,fun _=>id⟩,B1.out.trans (B2.out.mono B1.out.size)⟩
 | false=>
  go_wp2_with fail;refine(zN w1).mono ?_;rintro e w2 ⟨p,F,rfl,h2,b2⟩;have H2:=ay h2;have B2:=ay b2;clear h2 b2;go_wp2;go_ret;exact⟨p,F,rfl,pF.base H2.out B1.out.size,B1.out.trans (B2.out.mono B1.out.size)⟩
end Go.Proofs.YtpcjekgfnfjbpaaGreat
namespace Go.Proofs.YtpcjekgfnfjbpaaGreat
open Go.RowKit Go.bI Go.ChangeShapes Go.Maps
section
variable {B : Nat} {S S' S0 S1 S2 : TS} {s b x y : List Int} {i t n : Nat} {D : List qG} {h : EW} {d : qG}
structure Vz (S:TS):Prop where
 ok:S.Ok
 pre:(pW 5).l <+:S.l
 len:S.l.length<=900
structure Npv (S S':TS):Prop where
 pre:S.l <+:S'.l
 new:∀(m:Nat) t,S.l.length<=m->S'.l[m]? =some t->t.1=2\/t.1=3
theorem Npv.trans (h:Npv S S1) (h':Npv S1 S2):Npv S S2:=⟨h.pre.trans h'.pre,fun m t hm ht=>by
 by_cases hl:S1.l.length<=m
 ·exact h'.new m t hl ht
 ·have hl:m<S1.l.length:=by omega
  have e:=tq h'.pre (kP hl);rw[ht] at e;exact h.new m t hm (by rw[kP hl,gJ e])⟩
theorem Npv.put {k:Int} {a c:Int} (hk:k=2\/k=3):Npv S (S.put (k,a,c)):=⟨(wB _).1,fun m t hm ht=>by
 unfold TS.put at ht
 split at ht
 ·have hm':=(List.getElem?_eq_some_iff.1 ht).1;have hl:(S.add (k,a,c)).l.length=S.l.length+1:=yF _ _;obtain rfl:m=S.l.length:=by omega
  have e:(S.add (k,a,c)).l[S.l.length]? =some (k,a,c):=by
   show (S.l++ [(k,a,c)])[S.l.length]? = _;rw[Ji (bH _),Nat.sub_self]
   rfl
  rw[e] at ht;rw[<-gJ ht];exact hk
 ·exact absurd (List.getElem?_eq_some_iff.1 ht).1 (Nat.not_lt.2 hm)⟩
theorem Vz.at1 (h:Vz S) (hi:i<5):S.l[3 * i+1]? =some (2,((3 * i:Nat):Int),0):=tq h.pre (WA hi).2.1
theorem Vz.at2 (h:Vz S) (hi:i<5):S.l[3 * i+2]? =some (3,((3 * i:Nat):Int),0):=tq h.pre (WA hi).2.2
theorem Vz.lt (h:Vz S) (hi:i<5):3 * i<S.l.length:=by have:=(List.getElem?_eq_some_iff.1 (h.at1 hi)).1;omega
theorem aoU (B:Nat) (h:Vz S) (hl:S.l.length<=800) (hi:i<5) (ht:t<S.l.length):((dM B).is S (psT i) (eP (t:Int))).1=decide (eP (t:Int)=fA i)/\Npv S ((dM B).is S (psT i) (eP (t:Int))).2/\((dM B).is S (psT i) (eP (t:Int))).2.Ok/\((dM B).is S (psT i) (eP (t:Int))).2.l.length<=S.l.length+2:=by
 have e1:iB 2 S (eP t)=(eP (nU S (2,t,0)).1,0,S.put (2,t,0)):=by unfold iB;rw[kV ht aH]
 obtain⟨k1,p1,p2,p3⟩:=Ht h.ok (OJ (k:=2) aM ht);have hl1:=(xG S (2,(t:Int),0)).1;have ht1:t<(S.put (2,(t:Int),0)).l.length:=qZ ht (wB _).1.length_le;have e2:iB 3 (S.put (2,t,0)) (eP t)=(eP (nU (S.put (2,t,0)) (3,t,0)).1,0,(S.put (2,t,0)).put (3,t,0)):=by unfold iB;rw[kV ht1 aH]
 have ok1:=h.ok.put (2,(t:Int),0);obtain⟨k2,r1,r2,r3⟩:=Ht ok1 (OJ (k:=3) aM ht1);have hl2:=(xG (S.put (2,(t:Int),0)) (3,(t:Int),0)).1;have ok2:=ok1.put (3,(t:Int),0);have hA:(dM B).pub S (eP t)=(eP (k1:Int),0,S.put (2,t,0)):=e1.trans (by rw[p1]);have hC:(dM B).ver (S.put (2,t,0)) (eP t)=(eP (k2:Int),0,(S.put (2,t,0)).put (3,t,0)):=e2.trans (by rw[r1]);have hIs:(dM B).is S (psT i) (eP (t:Int))=(decide ((0:Int)=0/\(0:Int)=0/\eP (k1:Int)=(psT i).pb/\eP (k2:Int)=(psT i).vf),(S.put (2,t,0)).put (3,t,0)):=by
  unfold Eng.is;rw[hA]
  dsimp only
  rw[hC]
  rfl
 rw[hIs];refine⟨decide_eq_decide.2 ?_,(Npv.put (.inl rfl)).trans (Npv.put (.inr rfl)),ok2,by show ((S.put (2,(t:Int),0)).put (3,(t:Int),0)).l.length<=_;omega⟩;have hlt:=h.lt hi;have a1:=tq (wB (S:=S) (2,(t:Int),0)).1 (h.at1 hi);have a2:=tq ((wB (S:=S) (2,(t:Int),0)).1.trans (wB (S:=S.put (2,(t:Int),0)) (3,(t:Int),0)).1) (h.at2 hi)
 constructor
 ·rintro⟨_,_,h1,_⟩;have hk:k1=3 * i+1:=JG aH aH h1;subst hk;rw[p2] at a1;have:=(Prod.mk.inj (Prod.mk.inj (gJ a1)).2).1;obtain rfl:t=3 * i:=by omega
  rfl
 ·intro h1;have hk:t=3 * i:=JG aH aH h1;subst hk;refine⟨rfl,rfl,?_,?_⟩
  ·rw[twin ok1 p2 a1];rfl
  ·rw[twin ok2 r2 a2];rfl
variable {q : EU TS}
theorem afR (E:Eng B) {ro:List mD} {s:EU E.σ} {P:mD} (ht:d.ta=h.nm) (hP:mG ro d.fr=(P,true)):E.one ro h s d=if (E.take s.X P h.sc d.b).2.1≠0 then ⟨(E.take s.X P h.sc d.b).2.2,s.out,true⟩ else if LX s.out d.fr=true then ⟨(E.take s.X P h.sc d.b).2.2,s.out,s.bad⟩ else ⟨(E.take s.X P h.sc d.b).2.2,s.out++ [⟨d.fr,(E.take s.X P h.sc d.b).1⟩],s.bad⟩:=by
 unfold Eng.one;rw[if_pos ht,hP];simp only[Bool.true_eq_false,false_or]
end
end Go.Proofs.YtpcjekgfnfjbpaaGreat
namespace Go.Proofs.YtpcjekgfnfjbpaaGreat
open Go.RowKit Go.bI Go.ChangeShapes Go.Maps
attribute [local go_sem ↓] Go.wp_at_zero Go.wp_at_succ
section
variable {B : Nat} {w w' w0 w1 w2 w3 : World} {p m : Nat} {F F' F0 : Nat -> Prop} {v u vr vs vd vl : Value} {x l : List Int} {z : Nat -> Value} {qr qs qd : Nat -> Nat -> Value} {E : kS B} {X : E.σ} {ro : List mD} {ss : List (List Int)} {R : List Int × Int × E.σ}
def ET (E:kS B) (w0:World) (p:Nat) (F0:Nat->Prop) (vr vs:Value) (ro:List mD) (ss:List (List Int)) (qr qs:Nat->Nat->Value) (R:List Int × Int × E.σ) (w:World) (v:Value):Prop:=∃F' u,v=.tuple #[u,.int .i64 R.2.1] /\uo E w0 p F0 w R.2.2 F' vr vs ro ss qr qs/\eG F' w u R.1
def Js (E:kS B) (w0:World) (p:Nat) (F0:Nat->Prop) (vr vs:Value) (ro:List mD) (ss:List (List Int)) (qr qs:Nat->Nat->Value) (R:List Int × Int × E.σ) (w:World) (v:Value):Prop:=∃F',uo E w0 p F0 w R.2.2 F' vr vs ro ss qr qs/\eG F' w v R.1
theorem ET.below (h:ET E w0 p F0 vr vs ro ss qr qs R w v) (hb:Below w.heap.size w w'):ET E w0 p F0 vr vs ro ss qr qs R w' v:=by
 obtain⟨F',u,e,h1,h2⟩:=h;exact⟨F',u,e,h1.below hb,h2.below hb⟩
theorem Js.below (h:Js E w0 p F0 vr vs ro ss qr qs R w v) (hb:Below w.heap.size w w'):Js E w0 p F0 vr vs ro ss qr qs R w' v:=by
 obtain⟨F',h1,h2⟩:=h;exact⟨F',h1.below hb,h2.below hb⟩
theorem uo.forms (g:uo E w0 p F0 w X F vr vs ro ss qr qs) (hr:ro.length=5) (hs:ss.length=5):∃gr kr gs ks,vr=.slice (some ⟨gr,0,none⟩) 5 kr/\vs=.slice (some ⟨gs,0,none⟩) 5 ks:=by
 obtain⟨gr,kr,er,_⟩:=g.ro.os.m.form aH;obtain⟨gs,ks,es,_⟩:=g.ss.os.m.form aH;rw[hr] at er;rw[hs] at es;exact⟨gr,kr,gs,ks,er,es⟩
variable {gr kr gs ks : Nat}
theorem uo.aoL (g:uo E w0 p F0 w X F (.slice (some ⟨gr,0,none⟩) 5 kr) vs ro ss qr qs) (hr:ro.length=5) {j:Nat} (hj:j<5):∀i,i<3->w.cell? ⟨gr,j * 3+i,none⟩=some (qr j i):=by
 obtain⟨g',c',e,_,_,_,hc⟩:=g.ro.os.m.form (by rw[hr];decide);rw[hr] at e hc;cases e
 exact hc j hj
theorem uo.Kr (g:uo E w0 p F0 w X F vr (.slice (some ⟨gs,0,none⟩) 5 ks) ro ss qr qs) (hs:ss.length=5) {j:Nat} (hj:j<5):w.cell? ⟨gs,j * 1,none⟩=some (qs j 0):=by
 obtain⟨g',c',e,_,_,_,hc⟩:=g.ss.os.m.form (by rw[hs];decide);rw[hs] at e hc;cases e
 exact hc j hj 0 aM
end
def Jw:List qG:= [⟨dW 1,dW 0,eP 15⟩]
def exS:TS:=⟨(pW 5).l++ [(4,1,3)], []⟩
theorem adg:lQ 4 (pW 5) (psT 0).pb (fA 1)=(eP 15,0,exS):=by kernel_rfl
theorem Df (B:Nat):((dM B).all (xE 5) Jw ⟨exS, [⟨dW 0,fA 0⟩],false⟩ 2).out= [⟨dW 0,fA 0⟩,⟨dW 1,fA 1⟩] /\((dM B).all (xE 5) Jw ⟨exS, [⟨dW 0,fA 0⟩],false⟩ 2).bad=false/\((dM B).all (xE 5) Jw ⟨exS, [⟨dW 0,fA 0⟩],false⟩ 1).out.length=2:=⟨by kernel_rfl,by kernel_rfl,by kernel_rfl⟩
theorem Zk (B:Nat):∀i,2<=i->(dM B).all (xE 5) Jw ⟨exS, [⟨dW 0,fA 0⟩],false⟩ i=(dM B).all (xE 5) Jw ⟨exS, [⟨dW 0,fA 0⟩],false⟩ 2
 | 0,h=>absurd h aM
 | 1,h=>absurd h aM
 | 2,_=>rfl
 | i+3,_=>by
  have h:=Zk B (i+2) aH;have e:((dM B).all (xE 5) Jw ⟨exS, [⟨dW 0,fA 0⟩],false⟩ (i+2)).out[i+2]? =none:=by rw[h,(Df B).1];simp
  have e0:(dM B).all (xE 5) Jw ⟨exS, [⟨dW 0,fA 0⟩],false⟩ (i+3)=(dM B).all (xE 5) Jw ⟨exS, [⟨dW 0,fA 0⟩],false⟩ (i+2):=by
   show (match ((dM B).all (xE 5) Jw ⟨exS, [⟨dW 0,fA 0⟩],false⟩ (i+2)).out[i+2]? with | some h=>(dM B).inn (xE 5) Jw h ((dM B).all (xE 5) Jw ⟨exS, [⟨dW 0,fA 0⟩],false⟩ (i+2)) Jw.length | none=>(dM B).all (xE 5) Jw ⟨exS, [⟨dW 0,fA 0⟩],false⟩ (i+2))= _;rw[e]
  exact e0.trans h
theorem ahy (B:Nat) {i:Nat} (h:((dM B).all (xE 5) Jw ⟨exS, [⟨dW 0,fA 0⟩],false⟩ i).out.length=i):i=2:=by
 rcases(by omega:i=0\/i=1\/2<=i) with rfl | rfl | hi
 ·exact absurd (show (1:Nat)=0 from h) aM
 ·rw[(Df B).2.2] at h;omega
 ·rw[Zk B i hi,(Df B).1] at h;exact h.symm
theorem adu (w:World):Calls Tryz.prog 43 #[] w fun e w'=>e=.returned (.bool true)/\Below w.heap.size w w':=by
 go_enter Tryz.func43,Tryz.ntmps43
 go_wp2_with fail;refine(zN w).mono ?_;rintro e w1 ⟨p,F,rfl,h1,b1⟩;have H1:=ay h1;have B1:=ay b1;clear h1 b1;go_wp2_with fail;refine(EY (E:=dM w.heap.size) (X:=⟨[], []⟩) (F:=F) H1.out (show (0:Nat)<=800 by decide) (abj _)).mono ?_;rw[Wx _ 5 (bH _)]
 dsimp only
 rintro e w2 ⟨vr,vs,rfl,F2,qr,qs,hu⟩;obtain⟨gr,kr,gs,ks,rfl,rfl⟩:=hu.forms rfl rfl;have U2:=ay hu;have HGR:Hid (gr<w2.heap.size):=ay (hu.ro.os.m.lt gr rfl);have HGS:Hid (gs<w2.heap.size):=ay (hu.ss.os.m.lt gs rfl);have HRC:=ay (hu.aoL rfl (j:=0) aM);obtain⟨a1,c1,e1⟩:=eG.slice (hu.ss.bs 1 (fA 1) rfl);have HSC:Hid (w2.cell? ⟨gs,1 * 1,none⟩=some (.slice a1 9 c1)):=ay ((hu.Kr rfl (j:=1) aM).trans (by rw[e1];rfl));have Ng:Hid (eG F2 w2 (.slice a1 9 c1) (fA 1)):=ay (by have:=hu.ss.bs 1 (fA 1) rfl;unfold BsR at this;rw[e1] at this;exact this);have HP0:=ay (hu.ro.bs 0 (psT 0) rfl);have HGV:Hid (∀w',Below w2.heap.size w2 w'->Calls Tryz.prog 50 #[.pointer (some ⟨p,0,none⟩),.agg (gV 3 (qr 0)),.slice a1 9 c1] w' fun e wz=> ∃x,e=.returned x/\ET (dM w.heap.size) w1 p F (.slice (some ⟨gr,0,none⟩) 5 kr) (.slice (some ⟨gs,0,none⟩) 5 ks) (xE 5) (QH 5) qr qs (eP 15,0,exS) wz x):=ay fun w' hb'=>by
  have hU':=U2.out.below hb';have hg:=Dh (E:=dM w.heap.size) hU'.m (HP0.out.below hb') (Ng.out.below hb') aM (show (pW 5).l.length<=890 by decide);rw[show (dM w.heap.size).rT (pW 5) (psT 0).pb (fA 1)=(eP 15,0,exS) from adg] at hg;refine hg.mono ?_;rintro e wz ⟨u,rfl,F',m',y',ch',fo'⟩;exact⟨_,rfl,F',u,rfl,hU'.step m' ch' fo',y'⟩
 clear hu e1;go_upto_region 5 with(fail)
 refine rG (n:=69) 7 aQ aQ aQ aQ aQ rfl
  (fun ii vv=>(match ii with | 0=>vv=.pointer (some ⟨p,0,none⟩) | 1=>vv=.slice (some ⟨gr,0,none⟩) 5 kr | 2=>vv=.pointer (some ⟨gr,0 * 3,none⟩) | 3=>vv=.agg (gV 3 (qr 0)) | 4=>vv=.slice (some ⟨gs,0,none⟩) 5 ks | 5=>vv=.pointer (some ⟨gs,1 * 1,none⟩) | 6=>vv=.slice a1 9 c1 | 10 | 12=>vv=.int .i64 (0) | _=>True)) (fun ii vv ww=>(ii=7->ET (dM w.heap.size) w1 p F (.slice (some ⟨gr,0,none⟩) 5 kr) (.slice (some ⟨gs,0,none⟩) 5 ks) (xE 5) (QH 5) qr qs (eP 15,0,exS) ww vv)/\(ii=8->ET (dM w.heap.size) w1 p F (.slice (some ⟨gr,0,none⟩) 5 kr) (.slice (some ⟨gs,0,none⟩) 5 ks) (xE 5) (QH 5) qr qs (eP 15,0,exS) ww vv)/\(ii=9->Js (dM w.heap.size) w1 p F (.slice (some ⟨gr,0,none⟩) 5 kr) (.slice (some ⟨gs,0,none⟩) 5 ks) (xE 5) (QH 5) qr qs (eP 15,0,exS) ww vv)/\(ii=11->Js (dM w.heap.size) w1 p F (.slice (some ⟨gr,0,none⟩) 5 kr) (.slice (some ⟨gs,0,none⟩) 5 ks) (xE 5) (QH 5) qr qs (eP 15,0,exS) ww vv))
  (fun i v w w' h hE=>⟨fun e=>ET.below (h.1 e) hE,fun e=>ET.below (h.2.1 e) hE,fun e=>Js.below (h.2.2.1 e) hE,fun e=>Js.below (h.2.2.2 e) hE⟩)
  (fun ww=>True) (fun _ _ _ _=>trivial) ?_ ?_ ?_
 ·refine dG ?_;refine⟨?_,?_,?_,?_,?_,?_,?_,(fun h=>absurd rfl h),?_,?_,?_,?_,?_,trivial⟩
  ·intro _ a w2 hB' hP hF hd;have hB:=hB' aQ;exact aN <| aG _ (.inl rfl) aR ⟨(hF.same 1 rfl),aP,aP,aP,aP⟩
  ·intro _ a w2 hB' hP hF hd;have hB:=hB' aQ;exact aN <| aG _ (.inl rfl) aR ⟨(hF.same 2 rfl),aP,aP,aP,aP⟩
  ·intro _ a w2 hB' hP hF hd;have hB:=hB' aQ;exact aN <| aW (cO (i:=0) (sz:=3) rfl ((hd 1 _ rfl rfl).1) rfl Tryz.underlying57 Tryz.sizePs aM) ⟨rfl,aP,aP,aP,aP⟩
  ·intro _ a w2 hB' hP hF hd;have hB:=hB' aQ;exact aN <| aW (lG rfl ((hd 2 _ rfl rfl).1) Tryz.underlying78 rfl Tryz.sizePs (fun i hi=>(hB.cell (p:=⟨gr,0 * 3+i,none⟩) HGR.out).trans (HRC.out i hi))) ⟨rfl,aP,aP,aP,aP⟩
  ·intro _ a w2 hB' hP hF hd;have hB:=hB' aQ;exact aN <| aG _ (.inl rfl) aR ⟨(hF.same 3 rfl),aP,aP,aP,aP⟩
  ·intro _ a w2 hB' hP hF hd;have hB:=hB' aQ;exact aN <| aW (cO (i:=1) (sz:=1) rfl ((hd 4 _ rfl rfl).1) rfl Tryz.underlying55 Tryz.sizeBs aM) ⟨rfl,aP,aP,aP,aP⟩
  ·intro _ a w2 hB' hP hF hd;have hB:=hB' aQ;exact aN <| aW (eB rfl ((hd 5 _ rfl rfl).1) mo ((hB.cell (p:=⟨gs,1 * 1,none⟩) HGS.out).trans HSC.out)) ⟨rfl,aP,aP,aP,aP⟩
  ·intro _ a w2 hB' hP hF hd;exact aN <| aG _ (.inl rfl) aR ⟨trivial,aP,fun _=>((((hd 7 _ rfl rfl).2 aQ).1 rfl)),aP,aP⟩
  ·intro _ a w2 hB' hP hF hd;rw[if_pos (dA rfl)];obtain⟨F_,u_,II,Rq,hv_⟩:=(((hd 8 _ rfl rfl).2 aQ).2.1 rfl)
   exact aW (bU rfl II rfl) ⟨trivial,aP,aP,fun _=>(⟨F_,Rq,hv_⟩),aP⟩
  ·intro _ a w2 hB' hP hF hd;rw[if_pos (dA rfl)];obtain⟨F_,u_,II,Rq,hv_⟩:=(((hd 8 _ rfl rfl).2 aQ).2.1 rfl)
   exact aW (bU rfl II rfl) ⟨rfl,aP,aP,aP,aP⟩
  ·intro _ a w2 hB' hP hF hd;exact aN <| aG _ (.inr rfl) aR ⟨trivial,aP,aP,aP,fun _=>(((hd 9 _ rfl rfl).2 aQ).2.2.1 rfl)⟩
  ·intro _ a w2 hB' hP hF hd;exact aN <| aG _ (.inr rfl) aR ⟨((hd 10 _ rfl rfl).1),aP,aP,aP,aP⟩
 ·intro o ho a w2 hB hF hd;obtain rfl:=gJ ho;refine⟨by rw[dA rfl],?_⟩;refine wP 50 #[.tmp 19,.tmp 22,.tmp 25] _ rfl Tryz.call50 _ (vR ((hd 0 _ rfl rfl).1) ((hd 3 _ rfl rfl).1) ((hd 6 _ rfl rfl).1)) aR ((HGV.out w2 hB).mono ?_);rintro e w3 ⟨x,rfl,hr⟩;exact⟨x,rfl,⟨trivial,fun _=>(hr),aP,aP,aP⟩,trivial⟩
 ·intro a w3 hP hF hS;obtain⟨x26,OY⟩:∃x,x=a.tmps.getD 26 undef:=⟨_,rfl⟩
  have P26:ET (dM w.heap.size) w1 p F (.slice (some ⟨gr,0,none⟩) 5 kr) (.slice (some ⟨gs,0,none⟩) 5 ks) (xE 5) (QH 5) qr qs (eP 15,0,exS) w3 x26:=by rw[OY];exact((hS 7 _ rfl).2 aQ).1 rfl
  obtain⟨x18,Pb⟩:∃x,x=a.tmps.getD 18 undef:=⟨_,rfl⟩
  have P18:ET (dM w.heap.size) w1 p F (.slice (some ⟨gr,0,none⟩) 5 kr) (.slice (some ⟨gs,0,none⟩) 5 ks) (xE 5) (QH 5) qr qs (eP 15,0,exS) w3 x18:=by rw[Pb];exact((hS 8 _ rfl).2 aQ).2.1 rfl
  obtain⟨x27,hx27⟩:∃x,x=a.tmps.getD 27 undef:=⟨_,rfl⟩
  have P27:Js (dM w.heap.size) w1 p F (.slice (some ⟨gr,0,none⟩) 5 kr) (.slice (some ⟨gs,0,none⟩) 5 ks) (xE 5) (QH 5) qr qs (eP 15,0,exS) w3 x27:=by rw[hx27];exact((hS 9 _ rfl).2 aQ).2.2.1 rfl
  obtain⟨x5,hx5⟩:∃x,x=a.tmps.getD 5 undef:=⟨_,rfl⟩
  have P5:Js (dM w.heap.size) w1 p F (.slice (some ⟨gr,0,none⟩) 5 kr) (.slice (some ⟨gs,0,none⟩) 5 ks) (xE 5) (QH 5) qr qs (eP 15,0,exS) w3 x5:=by rw[hx5];exact((hS 11 _ rfl).2 aQ).2.2.2 rfl
  have ha:=aO rfl rfl hF [_,_,_,_,_,_,_,x26,x18,x27,_,x5,_] rfl ⟨(hS 0 _ rfl).1,(hS 1 _ rfl).1,(hS 2 _ rfl).1,(hS 3 _ rfl).1,(hS 4 _ rfl).1,(hS 5 _ rfl).1,(hS 6 _ rfl).1,OY.symm,Pb.symm,hx27.symm,(hS 10 _ rfl).1,hx5.symm,(hS 12 _ rfl).1,trivial⟩;simp only[puts,Act.put,fB,fD,fF] at ha;subst ha;clear OY Pb hx27 hx5;clear hS hF;have HP:=ay P5;clear P5 P26 P18 P27;obtain⟨F3,hu3,hy3⟩:=HP.out;obtain⟨a9,c9,e9⟩:=hy3.slice;subst e9;have U3:=ay hu3;have Y3:=ay hy3;obtain⟨a0,c0,e0⟩:=eG.slice (hu3.ss.bs 0 (fA 0) rfl);have k0:w3.cell? ⟨gs,0,none⟩=some (.slice a0 9 c0):=(hu3.Kr rfl (j:=0) aM).trans (by rw[e0];rfl);have HS0:Hid (eG F3 w3 (.slice a0 9 c0) (fA 0)):=ay (by have:=hu3.ss.bs 0 (fA 0) rfl;unfold BsR at this;rw[e0] at this;exact this);have arl:gs<w3.heap.size:=hu3.ss.os.m.lt gs rfl;rw[jL] at Y3 ⊢;clear hu3 hy3 HP hP e0;obtain⟨w4,hw4⟩:∃x,x=w3.alloc (.cells #[.string ⟨#[98]⟩,.string ⟨#[97]⟩,.slice a9 9 c9] 66):=⟨_,rfl⟩
  have ba:Below w3.heap.size w3 w4:=hw4▸(bT _ _).alloc (bH _) _;have BA:=ay ba;have U4:=ay (U3.out.below ba);have HDL:Hid (uX (Jz F3) 66 3 w4 (.slice (some ⟨w3.heap.size,0,none⟩) 1 1) Jw (fun _ i=>if i=0 then .string ⟨#[98]⟩ else if i=1 then .string ⟨#[97]⟩ else .slice a9 9 c9)):=ay (by
   refine⟨⟨?_,fun b hb=>?_⟩,fun j a hj=>?_⟩
   ·rw[hw4];refine iA.new w3 _ 3 (by unfold maxLen;decide) rfl fun j hj i hi=>?_;have hj:j<1:=hj;obtain rfl:j=0:=by omega
    rcases(by omega:i=0\/i=1\/i=2) with rfl | rfl | rfl<;> rfl
   ·obtain rfl:w3.heap.size=b:=by simpa [Value.ownBlock] using hb
    rw[hw4];refine EP.row (heap_alloc_new w3 _) fun u hu=>?_;have hu:u=.string ⟨#[98]⟩\/u=.string ⟨#[97]⟩\/u=.slice a9 9 c9:=by simpa using hu
    rcases hu with rfl | rfl | rfl<;> exact fun x e=>by cases e
   ·cases j with
    | zero=>
     obtain rfl:(⟨dW 1,dW 0,eP 15⟩:qG)=a:=gJ hj;exact⟨rfl,rfl,Y3.out.below ba⟩
    | succ j=>exact absurd hj (by simp[Jw]))
  have adS:=ay (zy (E:=(dM w.heap.size).toEng) (X:=exS) (me:=dW 0) (sec:=fA 0) (D:=Jw) U4.out.m U4.out.ro (fun b hb=>(U4.out.rn b hb).1) HDL.out (fun b hb hf=>by
   obtain rfl:w3.heap.size=b:=by simpa [Value.ownBlock] using hb
   exact Nat.lt_irrefl _ ((dM w.heap.size).lt U3.out.m hf)) (HS0.out.below ba) aM (fun j d hj=>by
    have:d ∈ Jw:=List.mem_of_getElem? hj;obtain rfl:=List.mem_singleton.1 this;show (eP 15).length<=400;rw[jL];decide) (by show (eP _).length<=1000;rw[jL];decide) (show exS.l.length<=600 by decide))
  clear ba;go_wp2_with fail;rw[<-hw4];refine adS.out.mono ?_;rintro e w5 ⟨i,vo,rfl,hi,F5,qo,ha⟩;obtain rfl:=ahy _ hi;rw[(Df _).2.1];have hou:=ha.ou;rw[(Df _).1] at hou;have U5:=ay (U4.out.step ha.m ha.ch ha.fo);obtain⟨go,ko,eo,hrow,_,_,hcell⟩:=hou.os.m.form aM;have eo:vo=.slice (some ⟨go,0,none⟩) 2 ko:=eo;subst eo;have HGO:Hid (go<w5.heap.size):=ay hrow.lt;have gX:=hou.bs 1 ⟨dW 1,fA 1⟩ rfl;obtain⟨a7,c7,e7⟩:=gX.z1.slice;have e7:qo 1 1=.slice a7 9 c7:=e7;have G0:Hid (w5.cell? ⟨go,1 * 2+0,none⟩=some (.string (dW 1))):=ay ((hcell 1 aM 0 aM).trans (by rw[gX.z0]));have G1:Hid (w5.cell? ⟨go,1 * 2+1,none⟩=some (.slice a7 9 c7)):=ay ((hcell 1 aM 1 aM).trans (by rw[e7]));have HY7:Hid (eG F5 w5 (.slice a7 9 c7) (fA 1)):=ay (by have:=gX.z1;rwa [e7] at this);obtain⟨a8,c8,e8⟩:=eG.slice (U5.out.ss.bs 1 (fA 1) rfl);have e8:qs 1 0=.slice a8 9 c8:=e8;have aqQ:Hid (w5.cell? ⟨gs,1 * 1,none⟩=some (.slice a8 9 c8)):=ay ((U5.out.Kr rfl (j:=1) aM).trans (by rw[e8]));have HY8:Hid (eG F5 w5 (.slice a8 9 c8) (fA 1)):=ay (by have:=U5.out.ss.bs 1 (fA 1) rfl;unfold BsR at this;rwa [e8] at this);have ark:Hid (gs<w5.heap.size):=ay (U5.out.ss.os.m.lt gs rfl);have HSM:Hid (∀w',Below w5.heap.size w5 w'->Calls Tryz.prog 19 #[.slice a7 9 c7,.slice a8 9 c8] w' fun e wz=>e=.returned (.bool true)/\Below w'.heap.size w' wz):=ay fun w' hb'=>by
   have h1:=(HY7.out.below hb').rd;have h2:=(HY8.out.below hb').rd;rw[show (fA 1).length=9 from jL _] at h1 h2;have:=afE _ _ 9 9 (bf (fA 1)) (bf (fA 1)) w' h1 h2
   rwa [show QJ 9 (bf (fA 1)) 9 (bf (fA 1))=true from by unfold QJ;rw[decide_eq_true rfl,Cj];rfl] at this
  have B5:Hid (Below w.heap.size w w5):=ay (B1.out.trans (U5.out.ch.gL.below B1.out.size fun b hb=>(dM w.heap.size).hi H1.out hb));clear ha hi hou hrow hcell gX e7 e8 hw4 k0 arl;go_upto_region 7 with(fail)
  refine bC (n:=69) aQ aQ aQ rfl
   (fun ii vv _=>(match ii with | 0=>vv=.int .i64 (0) | 1 | 2 | 4 | 5 | 6 | 9 | 10 | 11 | 16 | 17 | 18 | 26 | 27 | 28=>vv=.bool true | 3=>vv=.bool false | 7 | 12 | 19=>vv=.slice (some ⟨go,0,none⟩) 2 ko | 8=>vv=.int .i64 (2) | 13 | 20=>vv=.pointer (some ⟨go,1 * 2,none⟩) | 14=>vv=.pointer (some ⟨go,1 * 2+0,none⟩) | 15=>vv=.string (dW 1) | 21=>vv=.pointer (some ⟨go,1 * 2+1,none⟩) | 22=>vv=.slice a7 9 c7 | 23=>vv=.slice (some ⟨gs,0,none⟩) 5 ks | 24=>vv=.pointer (some ⟨gs,1 * 1,none⟩) | 25=>vv=.slice a8 9 c8 | _=>True))
   (fun w w'=>Below w.heap.size w w') (fun _ _ h=>h) (fun _ _ _ _ h _=>h) ?_ ?_
  ·refine dG ?_;refine⟨?_,?_,?_,?_,?_,?_,?_,?_,?_,?_,?_,?_,?_,?_,?_,?_,?_,?_,?_,?_,?_,?_,?_,?_,?_,?_,?_,?_,?_,trivial⟩
   ·intro a w2 hB hF hd;exact aN <| aG _ (.inl rfl) aR (hF.same 6 rfl)
   ·intro a w2 hB hF hd;refine aN <| aW (Go.bI.mZ rfl (hd 0 _ rfl (aj rfl)) rfl) ?_;exact rfl
   ·intro a w2 hB hF hd;exact aN <| aG _ (.inl rfl) aR (hd 1 _ rfl (aj rfl))
   ·intro a w2 hB hF hd;refine aT (aX rfl rfl (hd 2 _ rfl (aj rfl)) rfl) ?_;exact aG _ (.inl rfl) aR (hF.same 8 rfl)
   ·intro a w2 hB hF hd;refine aT (aX rfl rfl (hd 2 _ rfl (aj rfl)) rfl) ?_;exact aW (pJ rfl (hd 3 _ rfl (aj rfl))) rfl
   ·intro a w2 hB hF hd;exact aN <| aW (jN rfl (hd 2 _ rfl (aj rfl))) ((hd 4 _ rfl (aj rfl)))
   ·intro a w2 hB hF hd;exact aN <| aG _ (.inl rfl) aR (hd 5 _ rfl (aj rfl))
   ·intro a w2 hB hF hd;refine aT (aX rfl rfl (hd 6 _ rfl (aj rfl)) rfl) ?_;exact aG _ (.inl rfl) aR (hF.same 7 rfl)
   ·intro a w2 hB hF hd;refine aT (aX rfl rfl (hd 6 _ rfl (aj rfl)) rfl) ?_;exact aW (oH rfl (hd 7 _ rfl (aj rfl)) Tryz.underlying67) rfl
   ·intro a w2 hB hF hd;refine aT (aX rfl rfl (hd 6 _ rfl (aj rfl)) rfl) ?_;refine aW (Go.bI.mZ rfl (hd 8 _ rfl (aj rfl)) rfl) ?_;exact rfl
   ·intro a w2 hB hF hd;exact aN <| aW (jN rfl (hd 6 _ rfl (aj rfl))) ((hd 9 _ rfl (aj rfl)))
   ·intro a w2 hB hF hd;exact aN <| aG _ (.inl rfl) aR (hd 10 _ rfl (aj rfl))
   ·intro a w2 hB hF hd;refine aT (aX rfl rfl (hd 11 _ rfl (aj rfl)) rfl) ?_;exact aG _ (.inl rfl) aR (hF.same 7 rfl)
   ·intro a w2 hB hF hd;refine aT (aX rfl rfl (hd 11 _ rfl (aj rfl)) rfl) ?_;exact aW (cO (i:=1) (sz:=2) rfl (hd 12 _ rfl (aj rfl)) rfl Tryz.underlying67 Tryz.sizeHdC aM) rfl
   ·intro a w2 hB hF hd;refine aT (aX rfl rfl (hd 11 _ rfl (aj rfl)) rfl) ?_;exact aW (bB (m:=0) (k:=0) rfl (hd 13 _ rfl (aj rfl)) aQ) rfl
   ·intro a w2 hB hF hd;refine aT (aX rfl rfl (hd 11 _ rfl (aj rfl)) rfl) ?_;exact aW (eT rfl (hd 14 _ rfl (aj rfl)) yG ((hB.cell (p:=⟨go,1 * 2+0,none⟩) HGO.out).trans G0.out)) rfl
   ·intro a w2 hB hF hd;refine aT (aX rfl rfl (hd 11 _ rfl (aj rfl)) rfl) ?_;exact aW (sQ rfl (hd 15 _ rfl (aj rfl)) rfl yG) (congrArg Value.bool (show decide (dW 1=⟨#[98]⟩)=true from decide_eq_true rfl))
   ·intro a w2 hB hF hd;exact aN <| aW (jN rfl (hd 11 _ rfl (aj rfl))) ((hd 16 _ rfl (aj rfl)))
   ·intro a w2 hB hF hd;exact aN <| aG _ (.inl rfl) aR (hd 17 _ rfl (aj rfl))
   ·intro a w2 hB hF hd;refine aT (aX rfl rfl (hd 18 _ rfl (aj rfl)) rfl) ?_;exact aG _ (.inl rfl) aR (hF.same 7 rfl)
   ·intro a w2 hB hF hd;refine aT (aX rfl rfl (hd 18 _ rfl (aj rfl)) rfl) ?_;exact aW (cO (i:=1) (sz:=2) rfl (hd 19 _ rfl (aj rfl)) rfl Tryz.underlying67 Tryz.sizeHdC aM) rfl
   ·intro a w2 hB hF hd;refine aT (aX rfl rfl (hd 18 _ rfl (aj rfl)) rfl) ?_;exact aW (bB (m:=0) (k:=1) rfl (hd 20 _ rfl (aj rfl)) aQ) rfl
   ·intro a w2 hB hF hd;refine aT (aX rfl rfl (hd 18 _ rfl (aj rfl)) rfl) ?_;exact aW (eB rfl (hd 21 _ rfl (aj rfl)) mo ((hB.cell (p:=⟨go,1 * 2+1,none⟩) HGO.out).trans G1.out)) rfl
   ·intro a w2 hB hF hd;refine aT (aX rfl rfl (hd 18 _ rfl (aj rfl)) rfl) ?_;exact aG _ (.inl rfl) aR (hF.same 3 rfl)
   ·intro a w2 hB hF hd;refine aT (aX rfl rfl (hd 18 _ rfl (aj rfl)) rfl) ?_;exact aW (cO (i:=1) (sz:=1) rfl (hd 23 _ rfl (aj rfl)) rfl Tryz.underlying55 Tryz.sizeBs aM) rfl
   ·intro a w2 hB hF hd;refine aT (aX rfl rfl (hd 18 _ rfl (aj rfl)) rfl) ?_;exact aW (eB rfl (hd 24 _ rfl (aj rfl)) mo ((hB.cell (p:=⟨gs,1 * 1,none⟩) ark.out).trans aqQ.out)) rfl
   ·intro a w2 hB hF hd;refine aT (aX rfl rfl (hd 18 _ rfl (aj rfl)) rfl) ?_;refine aI _ _ _ rfl Tryz.call19 _ (args2 (hd 22 _ rfl (aj rfl)) (hd 25 _ rfl (aj rfl))) aR ((HSM.out w2 hB).mono ?_);rintro e w3 ⟨rfl,hb⟩;exact⟨_,rfl,rfl,hb⟩
   ·intro a w2 hB hF hd;exact aN <| aW (jN rfl (hd 18 _ rfl (aj rfl))) ((hd 26 _ rfl (aj rfl)))
   ·intro a w2 hB hF hd;exact aN <| aG _ (.inr rfl) aR (hd 27 _ rfl (aj rfl))
  ·intro a w6 hB hF hS;have ha:=aO rfl rfl hF [_,_,_,_,_,_,_,_,_,_,_,_,_,_,_,_,_,_,_,_,_,_,_,_,_,_,_,_,_] rfl ⟨hS 0 _ rfl,hS 1 _ rfl,hS 2 _ rfl,hS 3 _ rfl,hS 4 _ rfl,hS 5 _ rfl,hS 6 _ rfl,hS 7 _ rfl,hS 8 _ rfl,hS 9 _ rfl,hS 10 _ rfl,hS 11 _ rfl,hS 12 _ rfl,hS 13 _ rfl,hS 14 _ rfl,hS 15 _ rfl,hS 16 _ rfl,hS 17 _ rfl,hS 18 _ rfl,hS 19 _ rfl,hS 20 _ rfl,hS 21 _ rfl,hS 22 _ rfl,hS 23 _ rfl,hS 24 _ rfl,hS 25 _ rfl,hS 26 _ rfl,hS 27 _ rfl,hS 28 _ rfl,trivial⟩;simp only[puts,Act.put,fB,fD,fF] at ha;subst ha;clear hS hF;have B6:=ay (B5.out.trans (hB.mono B5.out.size));clear hB;go_wp2;go_ret;exact⟨rfl,B6.out⟩
end Go.Proofs.YtpcjekgfnfjbpaaGreat
namespace Go.Proofs.YtpcjekgfnfjbpaaGreat
open Go.RowKit Go.bI Go.ChangeShapes Go.Maps
section
variable {B : Nat} {w w' w0 w1 w2 w3 : World} {p m g i j cap : Nat} {F F' F0 : Nat -> Prop} {v u vr vs vd vl x : Value} {l : List Int} {z : Nat -> Value} {qr qs qd : Nat -> Nat -> Value} {E : kS B} {X : E.σ} {ro : List mD} {ss : List (List Int)} {D : List qG} {d' : qG}
end
theorem QZ {S:TS} (k:Int) (l:List Int) (h:S.Ok):(iB k S l).2.2.Ok:=by
 unfold iB
 split
 ·exact h.put _
 ·exact h
theorem Zt {S:TS} (s:Int) (h:S.Ok):(kX S s).2.2.Ok:=by
 unfold kX
 split
 ·exact h.draw s
 ·exact h
theorem QC:∀n,n<=5->(pW n).Ok
 | 0,_=>TS.Ok.empty
 | n+1,hn=>by
  obtain⟨A,C,h1,h2,h3⟩:=sI n aH;have a1:=Zt 1 (QC n aH);rw[h1] at a1;have a2:=QZ 2 (fA n) a1;rw[h2] at a2;have a3:=QZ 3 (fA n) a2;rw[h3] at a3;exact a3
theorem afg:(pW 5).Ok:=QC 5 (bH _)
def Ea (i:Nat):List Int:=(psT i).pb
theorem abv {a:Nat} (h:a<5):pX (dW a) (0:Int).toNat=97+(a:Int):=by
 rcases(by omega:a=0\/a=1\/a=2\/a=3\/a=4) with rfl | rfl | rfl | rfl | rfl<;> rfl
theorem afr {a:Nat} (h:a<5):IntKind.u8.wrap (97+(a:Int) - 97)=(a:Int):=by
 rcases(by omega:a=0\/a=1\/a=2\/a=3\/a=4) with rfl | rfl | rfl | rfl | rfl<;> rfl
section
variable {B : Nat} {w w0 : World} {p g j cap n a c : Nat} {F F0 : Nat -> Prop} {vr vs x : Value} {qr qs qd : Nat -> Nat -> Value} {E : kS B} {X : E.σ} {ro : List mD} {ss : List (List Int)} {D : List qG} {l : List Int}
end
end Go.Proofs.YtpcjekgfnfjbpaaGreat
namespace Go.Proofs.YtpcjekgfnfjbpaaGreat
open Go.RowKit Go.bI Go.ChangeShapes Go.Maps
attribute [local go_sem ↓] Go.wp_at_zero Go.wp_at_succ
section
variable {w w' w0 w1 w2 w3 : World} {v u x : Value}
theorem _root_.Go.bI.Pr2.below {m:Nat} {f g:Nat->Nat} (h:Pr2 w v m f g) (hb:Below w.heap.size w w'):Pr2 w' v m f g:=by
 obtain⟨q,hq,h2⟩:=h;exact⟨q,hq.below hb,h2⟩
theorem _root_.Go.bI.Pr2.lt {m:Nat} {f g:Nat->Nat} (h:Pr2 w v m f g) (hm:0<m):∀b,v.ownBlock=some b->b<w.heap.size:=by
 obtain⟨q,⟨a,c,rfl,_,_,h3⟩,_⟩:=h;obtain⟨b',o,rfl,hl,_⟩:=h3 hm;intro b hb;obtain rfl:b'=b:=by simpa [Value.ownBlock] using hb
 exact hl
end
end Go.Proofs.YtpcjekgfnfjbpaaGreat
