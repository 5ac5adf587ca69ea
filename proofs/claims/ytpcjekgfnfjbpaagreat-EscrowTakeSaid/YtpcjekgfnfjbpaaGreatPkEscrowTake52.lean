/-
  Part 52 of EscrowTake. Conditions: named in each theorem.
-/
import Derived.Test.YtpcjekgfnfjbpaaGreatPkEscrowTake51
import Derived.Test.YtpcjekgfnfjbpaaGreatPkEscrowTake42
set_option linter.unusedVariables false
set_option linter.unusedSimpArgs false
set_option maxRecDepth 100000
set_option maxHeartbeats 6400000
namespace Go.aZ
open Go.RowKit
theorem Gl {P:Program} {o:Oper} {a:Act} {w:World} {T U:TypeId} {x y:Operand} {s t:ByteArray} (ho:o.op=.binOp .eql T x y U) (hx:a.eval x=.string s) (hy:a.eval y=.string t) (hu:P.underlying T=some .string):
  (execOp a.eval o).run P w=.ok (.value (.bool (decide (s=t)))) w:=by
 have e:=VJ s t;unfold execOp;simp only [ho,hx,hy];simp [go_sem,hu,e]
section
variable {P : Program} {o : Oper} {a : Act} {w : World} {K : Act -> World -> Prop} {Q : Exit -> Act -> World -> Prop} {ops : Array Oper}
end
section
variable {w : World} {g i j n cap c : Nat} {x : Value} {A : Type} {F : Nat -> Prop} {e : TypeId} {L : List A} {q : Nat -> Nat -> Value} {a' : A} {R : (Nat -> Prop) -> World -> (Nat -> Value) -> A -> Prop}
end
end Go.aZ
namespace Go.Proofs.YtpcjekgfnfjbpaaGreat
open Go.RowKit Go.aZ Go.ChangeShapes Go.Maps
attribute [local go_sem ↓] Go.wp_at_zero Go.wp_at_succ
theorem _root_.Go.aZ.gY.setRow (F:Nat->Prop) (w:World) (g:Nat) (cs:Array Value) (hF:F g):gY F w (w.setRow g cs):=
 have h:=ay (bN 0 w) (iY g) cs
 ⟨h.os,h.tape,h.output,h.size,fun b _ hn=> setRow_other w g b cs fun e=> hn (e▸hF)⟩
def IJ:ByteArray:=⟨#[100,114,97,119]⟩
def jZ (sd:Nat->Int) (n:Nat):Nat->Int:=Dr 32 sd (rM IJ.size (fun _=> 8) 1) (zJ IJ.size (rH IJ) (fun _=> 8) (fun _=> vL n) 1)
theorem EL (sd:Nat->Int) (n i:Nat):0<=jZ sd n i/\jZ sd n i<256:=yT _ _ _ _ i
theorem UW (v:Value) (sd:Nat->Int) (n:Nat) (hf:∀i,i<32->0<=sd i/\sd i<256) (vc:Value) (w:World) (h:Rd .u8 w v 32 sd) (hc:qM w vc 1 (fun _=> 8) (fun _=> vL n)):
  Calls Tryz.prog 120 #[v,.string IJ,vc] w fun e w'=> e=.returned (.tuple #[.agg (arr .u8 32 (jZ sd n)),.int .i64 0])/\Below w.heap.size w w':=
 IU v 32 sd IJ vc 1 (fun _=> 8) (fun _=> vL n) w h (by decide) (by decide) hf (by decide) hc (by decide) (fun j hj=> by decide) (fun j hj i hi=> Kt _ _)
section
variable {B : Nat} {w w' w1 w2 w3 : World} {p q : Nat} {F G G' : Nat -> Prop} {sd : Nat -> Int} {n : Nat} {v u : Value} {l : List Int}
structure AP (B:Nat) (w:World) (p:Nat) (sd:Nat->Int) (n:Nat):Prop where
 r:kg w p 1 sd n (.pointer none)
 sdb:∀i,i<32->0<=sd i/\sd i<256
 hp:B<=p
theorem AP.below (h:AP B w p sd n) (hb:Below w.heap.size w w'):AP B w' p sd n:=⟨h.r.below hb,h.sdb,h.hp⟩
theorem AP.lt (h:AP B w p sd n):p<w.heap.size:=h.r.row.lt
theorem AP.keep {H:Nat->Prop} (h:AP B w p sd n) (hc:gY H w w') (hF:¬ H p):AP B w' p sd n:=⟨h.r.keep hc hF,h.sdb,h.hp⟩
theorem kg.next {kd m m':Int} {s:Value} (h:kg w p kd sd m s):kg (w.setCell ⟨p,33,none⟩ (.int .i64 m')) p kd sd m' s:=by
 refine ⟨h.row.setCell _ rfl _,?_,fun i hi=> ?_,?_,?_⟩
 ·rw [World.cell?_setCell_other _ _ _ _ (by intro e;cases e)];exact h.ck
 ·rw [World.cell?_setCell_other _ _ _ _ (by intro e;have:=congrArg Addr.off e;simp only at this;omega)];exact h.cs i hi
 ·exact World.cell?_setCell_same _ _ _ h.cn
 ·rw [World.cell?_setCell_other _ _ _ _ (by intro e;cases e)];exact h.cp
theorem AP.next (h:AP B w p sd n) {m:Nat}:AP B (w.setCell ⟨p,33,none⟩ (.int .i64 (m:Int))) p sd m:=⟨h.r.next,h.sdb,h.hp⟩
theorem AP.aeV (h:AP B w p sd n) (m:Int):ku p (fun _=> False) w (w.setCell ⟨p,33,none⟩ (.int .i64 m)):=
 ⟨.set _ _ _ _ (.inl rfl),fun b hb _ i x hx=> by
  rw [World.cell?_setCell_other _ _ _ _ (by intro e;cases e;rw [h.r.cn] at hx;cases hx)];exact hx⟩
theorem qQ {f:Nat->Int} (h:Rd .u8 w v 32 f):Calls Tryz.prog 64 #[v] w fun e w'=> e=.returned (.tuple #[.agg (arr .u8 32 f),.int .i64 0])/\Below w.heap.size w w':=by
 obtain ⟨a,c,rfl,h1,h2,_,h4⟩:=h;obtain ⟨b,o,rfl,hlt,hc⟩:=h4 (by decide);have HC:=ak hc;have YX:=ak hlt;clear h4 hc hlt
 go_enter Tryz.func64,Tryz.ntmps64
 go_upto_region 1 with (fail);refine aD (fun w1=> aF .u8 w1 w.heap.size 32 (fun _=> 0)/\Below w.heap.size w w1) ⟨bM rfl (by rfl),(bN _ _).alloc (bA _) _⟩ ?_;rintro w1 ⟨hZ,hbel⟩;have yH:Hid (∀i,i<32->w1.cell? ⟨b,o+i,none⟩=some (.int .u8 (f i))):=ak fun i hi=> (hbel.cell (p:=⟨b,o+i,none⟩) YX.out).trans (HC.out i hi);have HZ:=ak hZ;have HB:=ak hbel;have ha:∀w,(Instr.arrayAt 22 (.slice (some ⟨b,o,none⟩) 32 c)).run Tryz.prog w=.ok (.pointer (some ⟨b,o,none⟩)) w:=fun w=> jU (P:=Tryz.prog) (T:=22) (a:=some ⟨b,o,none⟩) (len:=32) (cap:=c) (n:=32) gH (by decide) w;clear hZ hbel
 go_wp2_with (first
  | (refine lZ rfl 22 _ rfl .u8 b o 32 f 5 gH eT rfl (fun i hi=> yH.out i hi) ?_)
  | (refine aG rfl 22 _ _ rfl .u8 w.heap.size 32 (fun _=> 0) f eT rfl rfl HZ.out ?_))
 exact bodyPost_ret (fT rfl _ _ .u8 w.heap.size 32 _ 5 rfl (HZ.out.setRow _ _) gH eT) rfl ⟨rfl,ay HB.out (bA _) _⟩
theorem uf {m:Nat} {f:Nat->Int} (h:Rd .u8 w v m f) (hm:m≠32):Calls Tryz.prog 64 #[v] w fun e w'=> e=.returned (.tuple #[.agg (arr .u8 32 (fun _=> 0)),.int .i64 11])/\Below w.heap.size w w':=by
 obtain ⟨a,c,rfl,h1,h2,_,h4⟩:=h;have hm':((m:Int) !=32)=true:=by simp;omega
 clear h4 hm
 go_enter Tryz.func64,Tryz.ntmps64
 go_upto_region 1 with (fail);refine aD (fun w1=> aF .u8 w1 w.heap.size 32 (fun _=> 0)/\Below w.heap.size w w1) ⟨bM rfl (by rfl),(bN _ _).alloc (bA _) _⟩ ?_;rintro w1 ⟨hZ,hbel⟩;have HZ:=ak hZ;have HB:=ak hbel;clear hZ hbel;go_wp2_with (refine aG rfl 22 _ _ rfl .u8 w.heap.size 32 (fun _=> 0) (fun _=> 0) eT rfl (by rfl) HZ.out ?_);exact bodyPost_ret (fT rfl _ _ .u8 w.heap.size 32 _ 5 rfl (HZ.out.setRow _ _) gH eT) rfl ⟨rfl,ay HB.out (bA _) _⟩
theorem wN (h:AP B w p sd n) (hn:n<=100000):Calls Tryz.prog 66 #[.pointer (some ⟨p,0,none⟩)] w fun e w'=> e=.returned (.agg (arr .u8 32 (jZ sd n)))/\AP B w' p sd (n+1)/\ku p (fun _=> False) w w':=by
 have H:=ak h;have HN:=ak hn;have cn:=h.r.cn;have HPN:Hid (p<w.heap.size):=ak h.r.row.lt;clear h hn
 go_enter Tryz.func66,Tryz.ntmps66
 clear cn;go_upto_region 1 with (fail);refine aD (fun w1=> aF .u8 w1 w.heap.size 32 (fun _=> 0)/\Below w.heap.size w w1) ⟨bM rfl (by rfl),(bN _ _).alloc (bA _) _⟩ ?_;rintro w1 ⟨hZ,hbel⟩;have H1:=ak (H.out.below hbel);have cn:=H1.out.r.cn;have HZ:=ak hZ;have HB:=ak hbel;clear hZ hbel;go_wp2_with fail;refine (Kr (n:Int) 8 w1 (by decide) (by decide) (by omega) (by have:=HN.out;omega) (aJ)).mono ?_;rintro e w2 ⟨u,rfl,hu,b2⟩;have HU:=ak hu.rd;obtain ⟨au,cu,rfl,_⟩:=hu.rd;have H2:=ak (H1.out.below b2);have HZ2:=ak (HZ.out.kept b2);have HB2:=ak (HB.out.trans (b2.mono HB.out.size));clear hu b2 cn;go_wp2_with fail;have BA:=(bN w2.heap.size w2).alloc (bA _) (.cells [Value.slice au 8 cu].toArray 23);refine (UW _ sd n H2.out.sdb _ _ (H2.out.r.below BA).rd (new1 HU.out (bN _ _))).mono ?_;rintro e w3 ⟨rfl,b3⟩;have B3:=ak (BA.trans (b3.mono (by rw [World.size_alloc];omega)));have H3:=ak (H2.out.below B3.out);have HZ3:=ak (HZ2.out.kept B3.out);have HB3:=ak (HB2.out.trans (B3.out.mono HB2.out.size));clear b3 BA;obtain ⟨D,hD⟩:∃D,D=jZ sd n:=⟨_,rfl⟩
 rw [<-hD];have HDD:=ak hD;clear hD;go_upto_region 3 with (refine aG rfl 22 _ _ rfl .u8 w3.heap.size 32 (fun _=> 0) D eT rfl rfl (bM rfl (by rfl)) ?_);refine aD (fun w4=> aF .u8 w4 w.heap.size 32 (fun _=> 0)/\aF .u8 w4 w3.heap.size 32 D/\Below w3.heap.size w3 w4) ⟨(HZ3.out.alloc _).aA _ (Nat.ne_of_lt HZ3.out.lt) _,(show aF .u8 (w3.alloc (.cells (arr .u8 32 (fun _=> 0)) 22)) w3.heap.size 32 (fun _=> 0) from bM rfl rfl).setRow 32 D,ay ((bN _ _).alloc (bA _) _) (bA _) _⟩ ?_;rintro w4 ⟨h4,h5,hbel⟩;have H4:=ak (H3.out.below hbel);have HB4:=ak (HB3.out.trans (hbel.mono HB3.out.size));have HZ4:=ak h4;have HD4:=ak h5;have HPL:Hid (p<w.heap.size/\w.heap.size<w3.heap.size):=ak ⟨HPN.out,HZ3.out.lt⟩;clear h4 h5 hbel;have cn:=H4.out.r.cn;have fr:=H4.out.r.row.free 33;have hnb:(n:Int)<1000000:=by have:=HN.out;omega
 go_upto_region 4 with (fail);have CS:=H4.out.aeV ((n:Int)+1);refine aD (fun w5=> AP B w5 p sd (n+1)/\aF .u8 w5 w.heap.size 32 (fun _=> 0)/\aF .u8 w5 w3.heap.size 32 D/\ku p (fun _=> False) w w5) ⟨H4.out.next (m:=n+1),HZ4.out.kV CS.kV (fun e=> e.elim (fun e=> by have:=HPL.out;omega) id),HD4.out.kV CS.kV (fun e=> e.elim (fun e=> by have:=HPL.out;omega) id),(ku.of_below HB4.out _).trans CS fun _ h=> h.elim⟩ ?_;rintro w5 ⟨h5,hz5,hd5,c5⟩;have H5:=ak h5;have HZ5:=ak hz5;have HD5:=ak hd5;have C5:=ak c5;clear h5 hz5 hd5 c5 CS cn fr hnb
 go_wp2_with (first
  | (refine aQ rfl 22 _ rfl .u8 w3.heap.size 32 D 5 gH eT rfl HD5.out ?_)
  | (refine aG rfl 22 _ _ rfl .u8 w.heap.size 32 (fun _=> 0) D eT rfl rfl HZ5.out ?_))
 obtain rfl:=HDD.out;have CR:=gY.setRow (fun b=> b=w.heap.size) w5 w.heap.size (arr .u8 32 (jZ sd n)) rfl;exact bodyPost_ret (bG rfl _ _ .u8 w.heap.size 32 _ 5 rfl (HZ5.out.setRow _ _) gH eT) rfl ⟨rfl,H5.out.keep CR fun e=> by have:=HPL.out;omega,C5.out.trans (ku.KI CR) fun b e=> .inr (by omega)⟩
end
inductive Su where
 | by (sd:Nat->Int) (n:Nat)
 | tm (S:TS)
def Su.size:Su->Nat
 | .by _ n=> n
 | .tm S=> S.l.length
abbrev UA:Type:=List Int × Int × Su
def sI (B:Nat) (w:World) (p:Nat) (F:Nat->Prop):Su->Prop
 | .by sd n=> AP B w p sd n/\∀b,¬ F b
 | .tm S=> mX B w p F S
section
variable {B : Nat} {w w' w1 w2 w3 : World} {p q : Nat} {F F' G G' : Nat -> Prop} {sd : Nat -> Int} {n : Nat} {v u v' : Value} {l l' : List Int} {X X' : Su} {S : TS}
theorem sI.below (h:sI B w p F X) (hb:Below w.heap.size w w'):sI B w' p F X:=by
 cases X with
 | «by» sd n=> exact ⟨h.1.below hb,h.2⟩
 | tm S=> exact mX.below h hb
theorem mX.pLt (h:mX B w p F S):p<w.heap.size/\B<=p:=by obtain ⟨q,G,h,_⟩:=h;exact ⟨h.r.row.lt,h.hp⟩
theorem sI.pLt (h:sI B w p F X):p<w.heap.size/\B<=p:=by
 cases X with
 | «by» sd n=> exact ⟨h.1.lt,h.1.hp⟩
 | tm S=> exact mX.pLt h
theorem sI.lt (h:sI B w p F X) {b:Nat} (hb:b=p\/F b):b<w.heap.size:=by
 rcases hb with rfl | hb
 ·exact h.pLt.1
 ·cases X with
  | «by» sd n=> exact absurd hb (h.2 b)
  | tm S=> exact mX.lt h hb
theorem sI.hi (h:sI B w p F X) {b:Nat} (hb:b=p\/F b):B<=b:=by
 rcases hb with rfl | hb
 ·exact h.pLt.2
 ·cases X with
  | «by» sd n=> exact absurd hb (h.2 b)
  | tm S=> exact mX.hi h hb
theorem sI.keep {H:Nat->Prop} (h:sI B w p F X) (hc:gY H w w') (hp:¬ H p) (hF:∀b,F b->¬ H b):sI B w' p F X:=by
 cases X with
 | «by» sd n=> exact ⟨h.1.keep hc hp,h.2⟩
 | tm S=> exact mX.keep h hc hF
def QH (B:Nat) (w:World) (p:Nat) (F:Nat->Prop) (v:Value) (r:UA) (w':World):Prop:=∃F',sI B w' p F' r.2.2/\dK F' w' v r.1/\ku p F w w'/\∀b,F' b->F b\/w.heap.size<=b
theorem yg.su {r:TA} (h:yg B w p F v r w'):QH B w p F v (r.1,r.2.1,.tm r.2.2) w':=by
 obtain ⟨F',h1,h2,h3,h4⟩:=h;exact ⟨F',h1,h2,ku.KI h3,h4⟩
theorem dK.any {f:Nat->Int} {m:Nat} (h:Rd .u8 w v m f) (hf:∀i,i<m->0<=f i/\f i<256) (hF:∀b,¬ F b):dK F w v (nu m f):=⟨yw hf,h.nu,fun _ b _=> hF b⟩
def Br (g:(Nat->Int)->Nat->Int) (sd:Nat->Int) (n:Nat) (l:List Int):UA:=if l.length=32 then (nu 32 (g (bf l)),0,.by sd n) else ([],11,.by sd n)
def Su.draw:Su->Int->UA
 | .by sd n,s=> if isSort s=true then (nu 32 (jZ sd n),0,.by sd (n+1)) else ([],2,.by sd n)
 | .tm S,s=> ((jE S s).1,(jE S s).2.1,.tm (jE S s).2.2)
theorem tZ (h:sI B w p F (.by sd n)) (hb:Below w.heap.size w w') (er:Int):QH B w p F (.slice none 0 0) ([],er,.by sd n) w':=
 ⟨F,⟨h.1.below hb,h.2⟩,dK.nil _ _,.of_below hb _,fun b hb=> .inl hb⟩
theorem Dy {m k:Nat} {f:Nat->Int} (h:sI B w p F (.by sd n)) (hs:AP B w1 p sd k) (hc:ku p (fun _=> False) w w1) (hr:Rd .u8 w1 v m f) (hf:∀i,i<m->0<=f i/\f i<256) (er:Int):QH B w p F v (nu m f,er,.by sd k) w1:=
 ⟨F,⟨hs,h.2⟩,dK.any hr hf h.2,⟨hc.kV.mono fun b _ hb=> hb.imp id fun h=> h.elim,fun b hb _=> hc.u8 b hb id⟩,fun b hb=> .inl hb⟩
theorem Oe (h:sI B w p F (.by sd n)) (s:Int) (hn:n<=900):Calls Tryz.prog 26 #[.pointer (some ⟨p,0,none⟩),.int .i64 s] w fun e w'=> ∃u,e=.returned (.tuple #[u,.int .i64 (Su.draw (.by sd n) s).2.1])/\QH B w p F u (Su.draw (.by sd n) s) w':=by
 have HQ:=ak h;have HL:=ak hn;have HW:=ak (fG h.1.r);obtain ⟨R,hR⟩:∃x,x=Su.draw (.by sd n) s:=⟨_,rfl⟩
 rw [<-hR];have HR:=ak hR;have ck:=h.1.r.ck;clear hR h hn;by_cases hs:1<=s/\s<=4
 ·have HS:Hid (isSort s=true):=ak (by unfold isSort;rw [decide_eq_true hs.1,decide_eq_true hs.2];rfl);have HE:Hid (R=(nu 32 (jZ sd n),0,.by sd (n+1))):=ak (by rw [HR.out];exact if_pos HS.out);have h1:decide (s<1)=false:=decide_eq_false (by omega);have h2:decide (4<s)=false:=decide_eq_false (by omega);clear hs
  go_enter Tryz.func26,Tryz.ntmps26
  go_wp2_with fail;refine HW.out.mono ?_;rintro e w1 ⟨rfl,rfl⟩;go_wp2_with fail;refine (wN HQ.out.1 (by have:=HL.out;omega)).mono ?_;rintro e w2 ⟨rfl,h2,c2⟩;have H2:=ak h2;have C2:=ak c2;clear h2 c2 ck;obtain ⟨D,hD⟩:∃D,D=jZ sd n:=⟨_,rfl⟩
  rw [<-hD] at HE ⊢;have Wm:Hid (∀i,i<32->0<=D i/\D i<256):=ak fun i _=> hD▸EL sd n i;clear hD;go_upto_region 8 with (refine aG rfl 22 _ _ rfl .u8 w2.heap.size 32 (fun _=> 0) D eT rfl rfl (bM rfl (by rfl)) ?_);refine aD (fun w4=> aF .u8 w4 w2.heap.size 32 D/\Below w2.heap.size w2 w4) ⟨(show aF .u8 (w2.alloc (.cells (arr .u8 32 (fun _=> 0)) 22)) w2.heap.size 32 (fun _=> 0) from bM rfl rfl).setRow 32 D,ay ((bN _ _).alloc (bA _) _) (bA _) _⟩ ?_;rintro w4 ⟨h4,b4⟩;have HD:=ak (Dy HQ.out (H2.out.below b4) (C2.out.trans (ku.of_below b4 (fun _=> False)) fun _ h=> .inl h) (h4.rd (by decide)) Wm.out 0);clear h4 b4;go_wp2;go_ret2;rw [HE.out];exact ⟨_,rfl,HD.out⟩
 ·have HE:Hid (R=([],2,.by sd n)):=ak (by
   rw [HR.out];refine if_neg fun h=> ?_;simp only [isSort,EY,decide_eq_true_eq] at h;exact hs h)
  by_cases h1:s<1
  ·have h1':decide (s<1)=true:=decide_eq_true h1;clear hs h1
   go_enter Tryz.func26,Tryz.ntmps26
   go_wp2_with fail;refine HW.out.mono ?_;rintro e w1 ⟨rfl,rfl⟩;go_wp2;go_ret2;rw [HE.out];exact ⟨_,rfl,tZ HQ.out (bN _ _) 2⟩
  ·have h1':decide (s<1)=false:=decide_eq_false h1;have h2':decide (4<s)=true:=decide_eq_true (by omega);clear hs h1
   go_enter Tryz.func26,Tryz.ntmps26
   go_wp2_with fail;refine HW.out.mono ?_;rintro e w1 ⟨rfl,rfl⟩;go_wp2;go_ret2;rw [HE.out];exact ⟨_,rfl,tZ HQ.out (bN _ _) 2⟩
end
section
variable {B : Nat} {w w' w1 w2 w3 : World} {p q : Nat} {F F' G G' : Nat -> Prop} {sd : Nat -> Int} {n : Nat} {v u v' : Value} {l l' : List Int} {X X' X'' : Su} {S S' : TS}
theorem Kc (h:sI B w p F X) (s:Int) (hn:X.size<=900):Calls Tryz.prog 26 #[.pointer (some ⟨p,0,none⟩),.int .i64 s] w fun e w'=> ∃u,e=.returned (.tuple #[u,.int .i64 (X.draw s).2.1])/\QH B w p F u (X.draw s) w':=by
 cases X with
 | «by» sd n=> exact Oe h s hn
 | tm S=> exact (Cb h s hn).mono fun e w' ⟨u,h1,h2⟩=> ⟨u,h1,h2.su⟩
theorem yP {n m:Nat} (hn:n<=1000000) (hm:m<=1000000) (h:dO n=dO m):n=m:=by
 have h1:=(yO (n:=(n:Int)) (by omega) (by omega)).2;have h2:=(yO (n:=(m:Int)) (by omega) (by omega)).2;rw [h] at h1;omega
theorem DY (h:S.Ok) {t:Tm} (ht:lM S t=true):∃k:Nat,(mW S t).1=k/\(S.put t).l[k]? =some t/\k<(S.put t).l.length:=by
 unfold mW TS.put;rw [if_pos ht];by_cases hin:t ∈ S.l
 ·rw [if_pos hin,if_neg (fun h=> h.2 hin)];exact ⟨Ee S.l t,rfl,uD hin,zy hin⟩
 ·rw [if_neg hin,if_pos ⟨ht,hin⟩];refine ⟨S.l.length,rfl,?_,by rw [uZ];omega⟩;show (S.l++ [t])[S.l.length]? =some t;rw [Fx (bA _),Nat.sub_self]
  rfl
theorem vJ (t:Tm):S.l <+:(S.put t).l/\S.tx <+:(S.put t).tx:=by
 unfold TS.put
 split
 ·exact ⟨List.prefix_append _ _,List.prefix_refl _⟩
 ·exact ⟨List.prefix_refl _,List.prefix_refl _⟩
theorem twin (h:S.Ok) {m k:Nat} {t:Tm} (h1:S.l[m]? =some t) (h2:S.l[k]? =some t):m=k:=by
 have e1:=Ec h.nd h1;have e2:=Ec h.nd h2;omega
theorem GX {key nonce:Nat->Int} {nb n:Nat} {fb f g:Nat->Int} (h:∀i,i<n+16->f i=g i):ql key nonce nb fb n f=ql key nonce nb fb n g:=by
 unfold ql;rw [Aq (fun _ _=> rfl) fun i hi=> h i (by omega)];unfold kX;refine decide_eq_decide.2 ⟨fun h1 i hi=> ?_,fun h1 i hi=> ?_⟩
 ·exact (h1 i hi).trans (h (n+i) (by omega))
 ·exact (h1 i hi).trans (h (n+i) (by omega)).symm
end
end Go.Proofs.YtpcjekgfnfjbpaaGreat
namespace Go.Proofs.YtpcjekgfnfjbpaaGreat
open Go.RowKit Go.aZ Go.ChangeShapes Go.Maps
section
variable {B : Nat} {w w' : World} {p : Nat} {F : Nat -> Prop} {v u : Value} {S S' : TS} {l l' : List Int} {r : TA}
theorem uH (k:Int) (S:TS) (l:List Int):(gW k S l).2.2.l.length<=S.l.length+1:=by
 unfold gW
 split
 ·exact (uy _ _).1
 ·exact Nat.le_succ _
theorem FH (k:Int) (S:TS) (a b:List Int):(mR k S a b).2.2.l.length<=S.l.length+1:=by
 unfold mR
 split
 ·split
  ·exact Nat.le_succ _
  ·exact (uy _ _).1
 ·exact Nat.le_succ _
theorem CK (S:TS) (s:Int):(jE S s).2.2.l.length<=S.l.length+1:=by
 unfold jE
 split
 ·show (S.draw s).l.length<=_;unfold TS.draw
  split
  ·exact Nat.le_of_eq (uZ _ _)
  ·exact Nat.le_succ _
 ·exact Nat.le_succ _
theorem yg.res (h:yg B w p F u r w'):∃F',mX B w' p F' r.2.2/\dK F' w' u r.1/\ku p F w w'/\∀b,F' b->F b\/w.heap.size<=b:=by
 obtain ⟨F',h1,h2,h3,h4⟩:=h;exact ⟨F',h1,h2,ku.KI h3,h4⟩
def cZ (B:Nat):mP B where
 σ:=TS
 M:=fun w p F X=> mX B w p F X
 sz:=fun X=> X.l.length
 pub:=gW 2
 ver:=gW 3
 AO:=cB
 below:=fun h hb=> mX.below h hb
 lt:=fun h hb=> hb.elim (fun e=> e▸(mX.pLt h).1) (mX.lt h)
 hi:=fun h hb=> hb.elim (fun e=> e▸(mX.pLt h).2) (mX.hi h)
 keep:=fun h hc _ hF=> mX.keep h hc hF
 szP:=fun X l=> uH 2 X l
 szV:=fun X l=> uH 3 X l
 Yy:=fun h hb hl=> (wM h hb hl).mono fun e w' ⟨u,h1,h2⟩=> ⟨u,h1,h2.res⟩
 Yx:=fun h hb hl=> (rU h hb hl).mono fun e w' ⟨u,h1,h2⟩=> ⟨u,h1,h2.res⟩
 acW:=fun h hb hb' _ hl=> wK h hb hb' (gQ hl (by decide))
 jY:=jE
 yJ:=mR 4
 szD:=fun X s=> CK X s
 szW:=fun X a b=> FH 4 X a b
 acX:=fun s h hl=> (Cb h s hl).mono fun e w' ⟨u,h1,h2⟩=> ⟨u,h1,h2.res⟩
 acV:=fun h hb hb' _ hl=> (BZ h hb hb' hl).mono fun e w' ⟨u,h1,h2⟩=> ⟨u,h1,h2.res⟩
def pQ:Nat->TS
 | 0=> ⟨[], []⟩
 | n+1=> ⟨(pQ n).l++ [(1,1,(n:Int)),(2,3 * (n:Int),0),(3,3 * (n:Int),0)], []⟩
def psT (i:Nat):nT:=⟨pF i,dO ((3 * i+1:Nat):Int),dO ((3 * i+2:Nat):Int)⟩
def fD (i:Nat):List Int:=dO ((3 * i:Nat):Int)
def vH:Nat->List nT
 | 0=> []
 | n+1=> vH n++ [psT n]
def MB:Nat->List (List Int)
 | 0=> []
 | n+1=> MB n++ [fD n]
theorem pU (n:Nat) (hn:n<5):∃A C,jE (pQ n) 1=(fD n,0,A)/\gW 2 A (fD n)=((psT n).pb,0,C)/\gW 3 C (fD n)=((psT n).vf,0,pQ (n+1)):=by
 refine ⟨⟨(pQ n).l++ [(1,1,(n:Int))], []⟩,⟨(pQ n).l++ [(1,1,(n:Int)),(2,3 * (n:Int),0)], []⟩,?_⟩;rcases (by omega:n=0\/n=1\/n=2\/n=3\/n=4) with rfl | rfl | rfl | rfl | rfl<;> exact ⟨by kernel_rfl,by kernel_rfl,by kernel_rfl⟩
theorem QY (B:Nat):∀n,n<=5->(cZ B).usr ⟨[], []⟩ n=(pQ n,vH n,MB n)
 | 0,_=> rfl
 | n+1,hn=> by
  have h0:=QY B n (by omega);obtain ⟨A,C,h1,h2,h3⟩:=pU n (by omega);have e1:(cZ B).jY ((cZ B).usr ⟨[], []⟩ n).1 1=(fD n,0,A):=by rw [h0];exact h1
  have e2:(cZ B).pub A (fD n)=((psT n).pb,0,C):=h2;have e3:(cZ B).ver C (fD n)=((psT n).vf,0,pQ (n+1)):=h3;show (((cZ B).ver ((cZ B).pub ((cZ B).jY ((cZ B).usr ⟨[], []⟩ n).1 1).2.2 ((cZ B).jY ((cZ B).usr ⟨[], []⟩ n).1 1).1).2.2 ((cZ B).jY ((cZ B).usr ⟨[], []⟩ n).1 1).1).2.2,_,_)= _;rw [e1];show (((cZ B).ver ((cZ B).pub A (fD n)).2.2 (fD n)).2.2,((cZ B).usr ⟨[], []⟩ n).2.1++ [⟨pF n,((cZ B).pub A (fD n)).1,((cZ B).ver ((cZ B).pub A (fD n)).2.2 (fD n)).1⟩],((cZ B).usr ⟨[], []⟩ n).2.2++ [fD n])= _;rw [e2];show (((cZ B).ver C (fD n)).2.2,((cZ B).usr ⟨[], []⟩ n).2.1++ [⟨pF n,(psT n).pb,((cZ B).ver C (fD n)).1⟩],((cZ B).usr ⟨[], []⟩ n).2.2++ [fD n])= _;rw [e3,h0]
  rfl
theorem WH (B:Nat):(cZ B).FE ⟨[], []⟩:=fun n hn=> by
 have h0:=QY B n (by omega);obtain ⟨A,C,h1,h2,h3⟩:=pU n hn;have e1:(cZ B).jY ((cZ B).usr ⟨[], []⟩ n).1 1=(fD n,0,A):=by rw [h0];exact h1
 have e2:(cZ B).pub A (fD n)=((psT n).pb,0,C):=h2;have e3:(cZ B).ver C (fD n)=((psT n).vf,0,pQ (n+1)):=h3;rw [e1];refine ⟨rfl,?_,?_⟩
 ·show ((cZ B).pub A (fD n)).2.1=0;rw [e2]
 ·show ((cZ B).ver ((cZ B).pub A (fD n)).2.2 (fD n)).2.1=0;rw [e2];show ((cZ B).ver C (fD n)).2.1=0;rw [e3]
theorem aaQ {i:Nat} (hi:i<5):(vH 5)[i]? =some (psT i):=by
 rcases (by omega:i=0\/i=1\/i=2\/i=3\/i=4) with rfl | rfl | rfl | rfl | rfl<;> rfl
theorem aaH {i:Nat} (hi:i<5):(MB 5)[i]? =some (fD i):=by
 rcases (by omega:i=0\/i=1\/i=2\/i=3\/i=4) with rfl | rfl | rfl | rfl | rfl<;> rfl
theorem Rb {i:Nat} (hi:i<5):(pQ 5).l[3 * i]? =some (1,1,(i:Int))/\(pQ 5).l[3 * i+1]? =some (2,((3 * i:Nat):Int),0)/\(pQ 5).l[3 * i+2]? =some (3,((3 * i:Nat):Int),0):=by
 rcases (by omega:i=0\/i=1\/i=2\/i=3\/i=4) with rfl | rfl | rfl | rfl | rfl<;> exact ⟨rfl,rfl,rfl⟩
end
end Go.Proofs.YtpcjekgfnfjbpaaGreat
namespace Go.Proofs.YtpcjekgfnfjbpaaGreat
open Go.RowKit Go.aZ Go.ChangeShapes Go.Maps
attribute [local go_sem ↓] Go.wp_at_zero Go.wp_at_succ
def xO (kd:Int) (sd:Nat->Int) (s:Value):Array Value:=(.int .i64 kd::(vals .u8 32 sd++ [.int .i64 0,s])).toArray
theorem aaE (kd:Int) (sd:Nat->Int) (s:Value):(xO kd sd s)[0]? =some (.int .i64 kd):=rfl
theorem aaD (kd:Int) (sd:Nat->Int) (s:Value) {i:Nat} (h:i<32):(xO kd sd s)[1+i]? =some (.int .u8 (sd i)):=by
 unfold xO;rw [List.getElem?_toArray,Nat.add_comm,List.getElem?_cons_succ,JI (by simpa using h)];exact cK h
theorem WT (kd:Int) (sd:Nat->Int) (s:Value):(xO kd sd s)[33]? =some (.int .i64 0):=rfl
theorem WS (kd:Int) (sd:Nat->Int) (s:Value):(xO kd sd s)[34]? =some s:=rfl
theorem kg.new (w:World) (kd:Int) (sd:Nat->Int) (s:Value):kg (w.alloc (.cells (xO kd sd s) 105)) w.heap.size kd sd 0 s:=by
 have hb:=heap_alloc_new w (.cells (xO kd sd s) 105);have hc:=fun i=> cell_of_row _ _ i _ _ (0,0) hb;exact ⟨⟨_,hb,rfl⟩,(hc 0).trans (aaE _ _ _),fun i hi=> (hc (1+i)).trans (aaD _ _ _ hi),(hc 33).trans (WT _ _ _),(hc 34).trans (WS _ _ _)⟩
theorem wG.base {B B':Nat} {w:World} {p:Nat} {F:Nat->Prop} {S:TS} (h:wG B w p F S) (hB:B'<=B):wG B' w p F S:=by
 obtain ⟨mb,mt,vl,vb,tv,h1,h2,h3⟩:=h;exact ⟨mb,mt,vl,vb,tv,⟨⟨h1.row,h1.c0,h1.c1,h1.c2,h1.c3,h1.nx,h1.ls,h1.am,h1.xm,h1.bs,fun j b hb=> (h1.bt j b hb).mono hB,h1.ne,gQ hB h1.hp,gQ hB h1.hb,gQ hB h1.hm,fun b hb=> gQ hB (h1.hl b hb),fun b hb=> gQ hB (h1.hv b hb)⟩,h1.nd,h1.txn,h1.all,h1.okt,h1.okx⟩,h2,h3⟩
theorem mX.base {B B':Nat} {w:World} {p:Nat} {F:Nat->Prop} {S:TS} (h:mX B w p F S) (hB:B'<=B):mX B' w p F S:=by
 obtain ⟨q,G,h,hF⟩:=h;exact ⟨q,G,⟨h.r,h.st.base hB,h.few,gQ hB h.hp,h.np⟩,hF⟩
theorem wL (w:World):Calls Tryz.prog 44 #[] w fun e w'=> ∃p F,e=.returned (.pointer (some ⟨p,0,none⟩))/\mX w.heap.size w' p F ⟨[], []⟩/\Below w.heap.size w w':=by
 go_enter Tryz.func44,Tryz.ntmps44
 go_wp2_with fail;refine (Rn w).mono ?_;rintro e w1 ⟨q,G,rfl,h1,b1⟩;have H1:=ak h1;have B1:=ak b1;clear h1 b1;go_wp2;go_ret;have hr:=kg.new w1 2 (fun _=> 0) (.pointer (some ⟨q,0,none⟩));have ba:=(bN w1.heap.size w1).alloc (bA _) (.cells (xO 2 (fun _=> 0) (.pointer (some ⟨q,0,none⟩))) 105);exact ⟨_,fun b=> b=w1.heap.size\/G b,rfl,⟨q,G,⟨hr,H1.out.below ba,TS.few.nil,B1.out.size,fun hg=> by have:=H1.out.lt hg;omega⟩,fun _=> Iff.rfl⟩,B1.out.trans (ba.mono B1.out.size)⟩
theorem Pw (sd:Nat->Int):Array.foldl (fun (cs:Array Value) (x:Value × Nat)=> cs.setIfInBounds (1+x.snd) x.fst) #[.int .i64 1,.int .u8 0,.int .u8 0,.int .u8 0,.int .u8 0,.int .u8 0,.int .u8 0,.int .u8 0,.int .u8 0,.int .u8 0,.int .u8 0,.int .u8 0,.int .u8 0,.int .u8 0,.int .u8 0,.int .u8 0,.int .u8 0,.int .u8 0,.int .u8 0,.int .u8 0,.int .u8 0,.int .u8 0,.int .u8 0,.int .u8 0,.int .u8 0,.int .u8 0,.int .u8 0,.int .u8 0,.int .u8 0,.int .u8 0,.int .u8 0,.int .u8 0,.int .u8 0,.int .i64 0,.pointer none] (arr .u8 32 sd).zipIdx 0 32=xO 1 sd (.pointer none):=by kernel_rfl
theorem Gb (sd:Nat->Int) (hs:∀i,i<32->0<=sd i/\sd i<256) (w:World):Calls Tryz.prog 12 #[.agg (arr .u8 32 sd)] w fun e w'=> ∃p,e=.returned (.pointer (some ⟨p,0,none⟩))/\AP w.heap.size w' p sd 0/\Below w.heap.size w w':=by
 have HS:=ak hs;clear hs
 go_enter Tryz.func12,Tryz.ntmps12
 go_upto_region 1 with (fail);refine aD (fun w1=> aF .u8 w1 w.heap.size 32 sd/\Below w.heap.size w w1) ⟨bM rfl rfl,(bN _ _).alloc (bA _) _⟩ ?_;rintro w1 ⟨h1,b1⟩;have H1:=ak h1;have B1:=ak b1;clear h1 b1;go_wp2_with (refine aQ rfl 22 _ rfl .u8 w.heap.size 32 sd 5 gH eT rfl H1.out ?_);rw [Pw];go_ret;have hr:=kg.new w1 1 sd (.pointer none);have ba:=(bN w1.heap.size w1).alloc (bA _) (.cells (xO 1 sd (.pointer none)) 105);have HR:Hid (AP w.heap.size (w1.alloc (.cells (xO 1 sd (.pointer none)) 105)) w1.heap.size sd 0/\Below w.heap.size w (w1.alloc (.cells (xO 1 sd (.pointer none)) 105))):=ak ⟨⟨hr,HS.out,B1.out.size⟩,B1.out.trans (ba.mono B1.out.size)⟩;exact ⟨w1.heap.size,rfl,HR.out⟩
def Qr (b:Bool) (sd:Nat->Int):Value:=.agg (.bool b::vals .u8 32 sd).toArray
def Su.new (b:Bool) (sd:Nat->Int):Su:=if b then .by sd 0 else .tm ⟨[], []⟩
theorem Su.SL (b:Bool) (sd:Nat->Int):(Su.new b sd).size=0:=by cases b<;> rfl
theorem Oc (b:Bool) (sd:Nat->Int) (hs:∀i,i<32->0<=sd i/\sd i<256) (w:World):Calls Tryz.prog 49 #[Qr b sd] w fun e w'=> ∃p F,e=.returned (.pointer (some ⟨p,0,none⟩))/\sI w.heap.size w' p F (Su.new b sd)/\Below w.heap.size w w':=by
 have HS:=ak hs;clear hs;obtain ⟨V,hV⟩:∃V,V=Qr b sd:=⟨_,rfl⟩
 have HV:=ak hV;rw [<-hV];clear hV
 go_enter Tryz.func49,Tryz.ntmps49
 obtain rfl:=HV.out;go_upto_region 1 with (fail);refine aD (fun w1=> w1.cell? ⟨w.heap.size,0,none⟩=some (.bool b)/\(∀i,i<32->w1.cell? ⟨w.heap.size,1+i,none⟩=some (.int .u8 (sd i)))/\Below w.heap.size w w1) ⟨cell_of_row _ _ 0 _ _ (0,0) (heap_alloc_new w _),fun i hi=> (cell_of_row _ _ (1+i) _ _ (0,0) (heap_alloc_new w _)).trans (show (Value.bool b::vals .u8 32 sd).toArray[1+i]? = _ from by rw [List.getElem?_toArray,Nat.add_comm,List.getElem?_cons_succ];exact cK hi),(bN _ _).alloc (bA _) _⟩ ?_;rintro w1 ⟨c0,c1,b1⟩;have C1:=ak c1;have B1:=ak b1;clear c1 b1
 cases b with
 | true=>
  go_wp2_with (refine lZ rfl 22 _ rfl .u8 w.heap.size 1 32 sd 5 gH eT rfl (fun i hi=> C1.out i hi) ?_);refine (Gb sd HS.out w1).mono ?_;rintro e w2 ⟨p,rfl,h2,b2⟩;have H2:=ak h2;have B2:=ak b2;clear h2 b2;go_wp2;go_ret;exact ⟨p,fun _=> False,rfl,⟨⟨H2.out.r,H2.out.sdb,gQ B1.out.size H2.out.hp⟩,fun _=> id⟩,B1.out.trans (B2.out.mono B1.out.size)⟩
 | false=>
  go_wp2_with fail;refine (wL w1).mono ?_;rintro e w2 ⟨p,F,rfl,h2,b2⟩;have H2:=ak h2;have B2:=ak b2;clear h2 b2;go_wp2;go_ret;exact ⟨p,F,rfl,mX.base H2.out B1.out.size,B1.out.trans (B2.out.mono B1.out.size)⟩
end Go.Proofs.YtpcjekgfnfjbpaaGreat
namespace Go.Proofs.YtpcjekgfnfjbpaaGreat
open Go.RowKit Go.aZ Go.ChangeShapes Go.Maps
section
variable {B : Nat} {S S' S0 S1 S2 : TS} {s b x y : List Int} {i t n : Nat} {D : List AL} {h : Fy} {d : AL}
structure QB (S:TS):Prop where
 ok:S.Ok
 pre:(pQ 5).l <+:S.l
 len:S.l.length<=900
structure YK (S S':TS):Prop where
 pre:S.l <+:S'.l
 new:∀(m:Nat) t,S.l.length<=m->S'.l[m]? =some t->t.1=2\/t.1=3
theorem YK.trans (h:YK S S1) (h':YK S1 S2):YK S S2:=⟨h.pre.trans h'.pre,fun m t hm ht=> by
 by_cases hl:S1.l.length<=m
 ·exact h'.new m t hl ht
 ·have hl:m<S1.l.length:=by omega
  have e:=sP h'.pre (oG hl);rw [ht] at e;exact h.new m t hm (by rw [oG hl,fO e])⟩
theorem YK.put {k:Int} {a c:Int} (hk:k=2\/k=3):YK S (S.put (k,a,c)):=⟨(vJ _).1,fun m t hm ht=> by
 unfold TS.put at ht
 split at ht
 ·have hm':=(List.getElem?_eq_some_iff.1 ht).1;have hl:(S.add (k,a,c)).l.length=S.l.length+1:=uZ _ _;obtain rfl:m=S.l.length:=by omega
  have e:(S.add (k,a,c)).l[S.l.length]? =some (k,a,c):=by
   show (S.l++ [(k,a,c)])[S.l.length]? = _;rw [Fx (bA _),Nat.sub_self]
   rfl
  rw [e] at ht;rw [<-fO ht];exact hk
 ·exact absurd (List.getElem?_eq_some_iff.1 ht).1 (Nat.not_lt.2 hm)⟩
theorem QB.at1 (h:QB S) (hi:i<5):S.l[3 * i+1]? =some (2,((3 * i:Nat):Int),0):=sP h.pre (Rb hi).2.1
theorem QB.at2 (h:QB S) (hi:i<5):S.l[3 * i+2]? =some (3,((3 * i:Nat):Int),0):=sP h.pre (Rb hi).2.2
theorem QB.lt (h:QB S) (hi:i<5):3 * i<S.l.length:=by have:=(List.getElem?_eq_some_iff.1 (h.at1 hi)).1;omega
theorem aiP (B:Nat) (h:QB S) (hl:S.l.length<=800) (hi:i<5) (ht:t<S.l.length):((cZ B).is S (psT i) (dO (t:Int))).1=decide (dO (t:Int)=fD i)/\YK S ((cZ B).is S (psT i) (dO (t:Int))).2/\((cZ B).is S (psT i) (dO (t:Int))).2.Ok/\((cZ B).is S (psT i) (dO (t:Int))).2.l.length<=S.l.length+2:=by
 have e1:gW 2 S (dO t)=(dO (mW S (2,t,0)).1,0,S.put (2,t,0)):=by unfold gW;rw [lX ht (by omega)]
 obtain ⟨k1,p1,p2,p3⟩:=DY h.ok (KO (k:=2) (by decide) ht);have hl1:=(uy S (2,(t:Int),0)).1;have ht1:t<(S.put (2,(t:Int),0)).l.length:=pJ ht (vJ _).1.length_le;have e2:gW 3 (S.put (2,t,0)) (dO t)=(dO (mW (S.put (2,t,0)) (3,t,0)).1,0,(S.put (2,t,0)).put (3,t,0)):=by unfold gW;rw [lX ht1 (by omega)]
 have ok1:=h.ok.put (2,(t:Int),0);obtain ⟨k2,r1,r2,r3⟩:=DY ok1 (KO (k:=3) (by decide) ht1);have hl2:=(uy (S.put (2,(t:Int),0)) (3,(t:Int),0)).1;have ok2:=ok1.put (3,(t:Int),0);have hA:(cZ B).pub S (dO t)=(dO (k1:Int),0,S.put (2,t,0)):=e1.trans (by rw [p1]);have hC:(cZ B).ver (S.put (2,t,0)) (dO t)=(dO (k2:Int),0,(S.put (2,t,0)).put (3,t,0)):=e2.trans (by rw [r1]);have hIs:(cZ B).is S (psT i) (dO (t:Int))=(decide ((0:Int)=0/\(0:Int)=0/\dO (k1:Int)=(psT i).pb/\dO (k2:Int)=(psT i).vf),(S.put (2,t,0)).put (3,t,0)):=by
  unfold Eng.is;rw [hA]
  dsimp only
  rw [hC]
  rfl
 rw [hIs];refine ⟨decide_eq_decide.2 ?_,(YK.put (.inl rfl)).trans (YK.put (.inr rfl)),ok2,by show ((S.put (2,(t:Int),0)).put (3,(t:Int),0)).l.length<=_;omega⟩;have hlt:=h.lt hi;have a1:=sP (vJ (S:=S) (2,(t:Int),0)).1 (h.at1 hi);have a2:=sP ((vJ (S:=S) (2,(t:Int),0)).1.trans (vJ (S:=S.put (2,(t:Int),0)) (3,(t:Int),0)).1) (h.at2 hi)
 constructor
 ·rintro ⟨_,_,h1,_⟩;have hk:k1=3 * i+1:=yP (by omega) (by omega) h1;subst hk;rw [p2] at a1;have:=(Prod.mk.inj (Prod.mk.inj (fO a1)).2).1;obtain rfl:t=3 * i:=by omega
  rfl
 ·intro h1;have hk:t=3 * i:=yP (by omega) (by omega) h1;subst hk;refine ⟨rfl,rfl,?_,?_⟩
  ·rw [twin ok1 p2 a1];rfl
  ·rw [twin ok2 r2 a2];rfl
variable {q : JB TS}
end
end Go.Proofs.YtpcjekgfnfjbpaaGreat
namespace Go.Proofs.YtpcjekgfnfjbpaaGreat
open Go.RowKit Go.aZ Go.ChangeShapes Go.Maps
attribute [local go_sem ↓] Go.wp_at_zero Go.wp_at_succ
section
variable {B : Nat} {w w' w0 w1 w2 w3 : World} {p m : Nat} {F F' F0 : Nat -> Prop} {v u vr vs vd vl : Value} {x l : List Int} {z : Nat -> Value} {qr qs qd : Nat -> Nat -> Value} {E : mP B} {X : E.σ} {ro : List nT} {ss : List (List Int)} {R : List Int × Int × E.σ}
def BM (E:mP B) (w0:World) (p:Nat) (F0:Nat->Prop) (vr vs:Value) (ro:List nT) (ss:List (List Int)) (qr qs:Nat->Nat->Value) (R:List Int × Int × E.σ) (w:World) (v:Value):Prop:=∃F' u,v=.tuple #[u,.int .i64 R.2.1] /\rF E w0 p F0 w R.2.2 F' vr vs ro ss qr qs/\dK F' w u R.1
def Fq (E:mP B) (w0:World) (p:Nat) (F0:Nat->Prop) (vr vs:Value) (ro:List nT) (ss:List (List Int)) (qr qs:Nat->Nat->Value) (R:List Int × Int × E.σ) (w:World) (v:Value):Prop:=∃F',rF E w0 p F0 w R.2.2 F' vr vs ro ss qr qs/\dK F' w v R.1
theorem BM.below (h:BM E w0 p F0 vr vs ro ss qr qs R w v) (hb:Below w.heap.size w w'):BM E w0 p F0 vr vs ro ss qr qs R w' v:=by
 obtain ⟨F',u,e,h1,h2⟩:=h;exact ⟨F',u,e,h1.below hb,h2.below hb⟩
theorem Fq.below (h:Fq E w0 p F0 vr vs ro ss qr qs R w v) (hb:Below w.heap.size w w'):Fq E w0 p F0 vr vs ro ss qr qs R w' v:=by
 obtain ⟨F',h1,h2⟩:=h;exact ⟨F',h1.below hb,h2.below hb⟩
theorem rF.forms (g:rF E w0 p F0 w X F vr vs ro ss qr qs) (hr:ro.length=5) (hs:ss.length=5):∃gr kr gs ks,vr=.slice (some ⟨gr,0,none⟩) 5 kr/\vs=.slice (some ⟨gs,0,none⟩) 5 ks:=by
 obtain ⟨gr,kr,er,_⟩:=g.ro.os.m.form (by omega);obtain ⟨gs,ks,es,_⟩:=g.ss.os.m.form (by omega);rw [hr] at er;rw [hs] at es;exact ⟨gr,kr,gs,ks,er,es⟩
variable {gr kr gs ks : Nat}
theorem rF.Oq (g:rF E w0 p F0 w X F (.slice (some ⟨gr,0,none⟩) 5 kr) vs ro ss qr qs) (hr:ro.length=5) {j:Nat} (hj:j<5):∀i,i<3->w.cell? ⟨gr,j * 3+i,none⟩=some (qr j i):=by
 obtain ⟨g',c',e,_,_,_,hc⟩:=g.ro.os.m.form (by rw [hr];decide);rw [hr] at e hc;cases e
 exact hc j hj
theorem rF.Km (g:rF E w0 p F0 w X F vr (.slice (some ⟨gs,0,none⟩) 5 ks) ro ss qr qs) (hs:ss.length=5) {j:Nat} (hj:j<5):w.cell? ⟨gs,j * 1,none⟩=some (qs j 0):=by
 obtain ⟨g',c',e,_,_,_,hc⟩:=g.ss.os.m.form (by rw [hs];decide);rw [hs] at e hc;cases e
 exact hc j hj 0 (by decide)
end
def Fw:List AL:= [⟨pF 1,pF 0,dO 15⟩]
def exS:TS:=⟨(pQ 5).l++ [(4,1,3)], []⟩
theorem Yq:mR 4 (pQ 5) (psT 0).pb (fD 1)=(dO 15,0,exS):=by kernel_rfl
theorem zU (B:Nat):((cZ B).all (vH 5) Fw ⟨exS, [⟨pF 0,fD 0⟩],false⟩ 2).out= [⟨pF 0,fD 0⟩,⟨pF 1,fD 1⟩] /\((cZ B).all (vH 5) Fw ⟨exS, [⟨pF 0,fD 0⟩],false⟩ 2).bad=false/\((cZ B).all (vH 5) Fw ⟨exS, [⟨pF 0,fD 0⟩],false⟩ 1).out.length=2:=⟨by kernel_rfl,by kernel_rfl,by kernel_rfl⟩
theorem Uz (B:Nat):∀i,2<=i->(cZ B).all (vH 5) Fw ⟨exS, [⟨pF 0,fD 0⟩],false⟩ i=(cZ B).all (vH 5) Fw ⟨exS, [⟨pF 0,fD 0⟩],false⟩ 2
 | 0,h=> absurd h (by decide)
 | 1,h=> absurd h (by decide)
 | 2,_=> rfl
 | i+3,_=> by
  have h:=Uz B (i+2) (by omega);have e:((cZ B).all (vH 5) Fw ⟨exS, [⟨pF 0,fD 0⟩],false⟩ (i+2)).out[i+2]? =none:=by rw [h,(zU B).1];simp
  have e0:(cZ B).all (vH 5) Fw ⟨exS, [⟨pF 0,fD 0⟩],false⟩ (i+3)=(cZ B).all (vH 5) Fw ⟨exS, [⟨pF 0,fD 0⟩],false⟩ (i+2):=by
   show (match ((cZ B).all (vH 5) Fw ⟨exS, [⟨pF 0,fD 0⟩],false⟩ (i+2)).out[i+2]? with | some h=> (cZ B).inn (vH 5) Fw h ((cZ B).all (vH 5) Fw ⟨exS, [⟨pF 0,fD 0⟩],false⟩ (i+2)) Fw.length | none=> (cZ B).all (vH 5) Fw ⟨exS, [⟨pF 0,fD 0⟩],false⟩ (i+2))= _;rw [e]
  exact e0.trans h
theorem acL (B:Nat) {i:Nat} (h:((cZ B).all (vH 5) Fw ⟨exS, [⟨pF 0,fD 0⟩],false⟩ i).out.length=i):i=2:=by
 rcases (by omega:i=0\/i=1\/2<=i) with rfl | rfl | hi
 ·exact absurd (show (1:Nat)=0 from h) (by decide)
 ·rw [(zU B).2.2] at h;omega
 ·rw [Uz B i hi,(zU B).1] at h;exact h.symm
theorem YG (w:World):Calls Tryz.prog 43 #[] w fun e w'=> e=.returned (.bool true)/\Below w.heap.size w w':=by
 go_enter Tryz.func43,Tryz.ntmps43
 go_wp2_with fail;refine (wL w).mono ?_;rintro e w1 ⟨p,F,rfl,h1,b1⟩;have H1:=ak h1;have B1:=ak b1;clear h1 b1;go_wp2_with fail;refine (BN (E:=cZ w.heap.size) (X:=⟨[], []⟩) (F:=F) H1.out (show (0:Nat)<=800 by decide) (WH _)).mono ?_;rw [QY _ 5 (bA _)]
 dsimp only
 rintro e w2 ⟨vr,vs,rfl,F2,qr,qs,hu⟩;obtain ⟨gr,kr,gs,ks,rfl,rfl⟩:=hu.forms rfl rfl;have U2:=ak hu;have Qz:Hid (gr<w2.heap.size):=ak (hu.ro.os.m.lt gr rfl);have Qy:Hid (gs<w2.heap.size):=ak (hu.ss.os.m.lt gs rfl);have NK:=ak (hu.Oq rfl (j:=0) (by decide));obtain ⟨a1,c1,e1⟩:=dK.slice (hu.ss.bs 1 (fD 1) rfl);have Mh:Hid (w2.cell? ⟨gs,1 * 1,none⟩=some (.slice a1 9 c1)):=ak ((hu.Km rfl (j:=1) (by decide)).trans (by rw [e1];rfl));have Jz:Hid (dK F2 w2 (.slice a1 9 c1) (fD 1)):=ak (by have:=hu.ss.bs 1 (fD 1) rfl;unfold BsR at this;rw [e1] at this;exact this);have HP0:=ak (hu.ro.bs 0 (psT 0) rfl);have Wx:Hid (∀w',Below w2.heap.size w2 w'->Calls Tryz.prog 50 #[.pointer (some ⟨p,0,none⟩),.agg (fC 3 (qr 0)),.slice a1 9 c1] w' fun e wz=> ∃x,e=.returned x/\BM (cZ w.heap.size) w1 p F (.slice (some ⟨gr,0,none⟩) 5 kr) (.slice (some ⟨gs,0,none⟩) 5 ks) (vH 5) (MB 5) qr qs (dO 15,0,exS) wz x):=ak fun w' hb'=> by
  have hU':=U2.out.below hb';have hg:=zX (E:=cZ w.heap.size) hU'.m (HP0.out.below hb') (Jz.out.below hb') (by decide) (show (pQ 5).l.length<=890 by decide);rw [show (cZ w.heap.size).yJ (pQ 5) (psT 0).pb (fD 1)=(dO 15,0,exS) from Yq] at hg;refine hg.mono ?_;rintro e wz ⟨u,rfl,F',m',y',ch',fo'⟩;exact ⟨_,rfl,F',u,rfl,hU'.step m' ch' fo',y'⟩
 clear hu e1;go_upto_region 5 with (fail)
 refine jP (n:=69) 7 (by kernel_rfl) (by kernel_rfl) (by kernel_rfl) (by kernel_rfl) (by kernel_rfl) rfl
  (fun ii vv=> (match ii with | 0=> vv=.pointer (some ⟨p,0,none⟩) | 1=> vv=.slice (some ⟨gr,0,none⟩) 5 kr | 2=> vv=.pointer (some ⟨gr,0 * 3,none⟩) | 3=> vv=.agg (fC 3 (qr 0)) | 4=> vv=.slice (some ⟨gs,0,none⟩) 5 ks | 5=> vv=.pointer (some ⟨gs,1 * 1,none⟩) | 6=> vv=.slice a1 9 c1 | 10 | 12=> vv=.int .i64 (0) | _=> True)) (fun ii vv ww=> (ii=7->BM (cZ w.heap.size) w1 p F (.slice (some ⟨gr,0,none⟩) 5 kr) (.slice (some ⟨gs,0,none⟩) 5 ks) (vH 5) (MB 5) qr qs (dO 15,0,exS) ww vv)/\(ii=8->BM (cZ w.heap.size) w1 p F (.slice (some ⟨gr,0,none⟩) 5 kr) (.slice (some ⟨gs,0,none⟩) 5 ks) (vH 5) (MB 5) qr qs (dO 15,0,exS) ww vv)/\(ii=9->Fq (cZ w.heap.size) w1 p F (.slice (some ⟨gr,0,none⟩) 5 kr) (.slice (some ⟨gs,0,none⟩) 5 ks) (vH 5) (MB 5) qr qs (dO 15,0,exS) ww vv)/\(ii=11->Fq (cZ w.heap.size) w1 p F (.slice (some ⟨gr,0,none⟩) 5 kr) (.slice (some ⟨gs,0,none⟩) 5 ks) (vH 5) (MB 5) qr qs (dO 15,0,exS) ww vv))
  (fun i v w w' h hE=> ⟨fun e=> BM.below (h.1 e) hE,fun e=> BM.below (h.2.1 e) hE,fun e=> Fq.below (h.2.2.1 e) hE,fun e=> Fq.below (h.2.2.2 e) hE⟩)
  (fun ww=> True) (fun _ _ _ _=> trivial) ?_ ?_ ?_
 ·refine cO ?_;refine ⟨?_,?_,?_,?_,?_,?_,?_,(fun h=> absurd rfl h),?_,?_,?_,?_,?_,trivial⟩
  ·intro _ a w2 hB' hP hF hd;have hB:=hB' (by kernel_rfl);exact aH <| dJ rfl ⟨(hF.same 1 rfl),aJ,aJ,aJ,aJ⟩
  ·intro _ a w2 hB' hP hF hd;have hB:=hB' (by kernel_rfl);exact aH <| dJ rfl ⟨(hF.same 2 rfl),aJ,aJ,aJ,aJ⟩
  ·intro _ a w2 hB' hP hF hd;have hB:=hB' (by kernel_rfl);exact aH <| aP (bQ (i:=0) (sz:=3) rfl ((hd 1 _ rfl rfl).1) rfl Tryz.underlying57 Tryz.sizePs (by decide)) ⟨rfl,aJ,aJ,aJ,aJ⟩
  ·intro _ a w2 hB' hP hF hd;have hB:=hB' (by kernel_rfl);exact aH <| aP (iq rfl ((hd 2 _ rfl rfl).1) Tryz.underlying78 rfl Tryz.sizePs (fun i hi=> (hB.cell (p:=⟨gr,0 * 3+i,none⟩) Qz.out).trans (NK.out i hi))) ⟨rfl,aJ,aJ,aJ,aJ⟩
  ·intro _ a w2 hB' hP hF hd;have hB:=hB' (by kernel_rfl);exact aH <| dJ rfl ⟨(hF.same 3 rfl),aJ,aJ,aJ,aJ⟩
  ·intro _ a w2 hB' hP hF hd;have hB:=hB' (by kernel_rfl);exact aH <| aP (bQ (i:=1) (sz:=1) rfl ((hd 4 _ rfl rfl).1) rfl Tryz.underlying55 Tryz.sizeBs (by decide)) ⟨rfl,aJ,aJ,aJ,aJ⟩
  ·intro _ a w2 hB' hP hF hd;have hB:=hB' (by kernel_rfl);exact aH <| aP (bV rfl ((hd 5 _ rfl rfl).1) jI ((hB.cell (p:=⟨gs,1 * 1,none⟩) Qy.out).trans Mh.out)) ⟨rfl,aJ,aJ,aJ,aJ⟩
  ·intro _ a w2 hB' hP hF hd;exact aH <| dJ rfl ⟨trivial,aJ,fun _=> ((((hd 7 _ rfl rfl).2 (by kernel_rfl)).1 rfl)),aJ,aJ⟩
  ·intro _ a w2 hB' hP hF hd;rw [if_pos (bJ rfl)];obtain ⟨F_,u_,wh,Cv,Nj⟩:=(((hd 8 _ rfl rfl).2 (by kernel_rfl)).2.1 rfl)
   exact aP (bg rfl wh rfl) ⟨trivial,aJ,aJ,fun _=> (⟨F_,Cv,Nj⟩),aJ⟩
  ·intro _ a w2 hB' hP hF hd;rw [if_pos (bJ rfl)];obtain ⟨F_,u_,wh,Cv,Nj⟩:=(((hd 8 _ rfl rfl).2 (by kernel_rfl)).2.1 rfl)
   exact aP (bg rfl wh rfl) ⟨rfl,aJ,aJ,aJ,aJ⟩
  ·intro _ a w2 hB' hP hF hd;exact aH <| mH rfl ⟨trivial,aJ,aJ,aJ,fun _=> (((hd 9 _ rfl rfl).2 (by kernel_rfl)).2.2.1 rfl)⟩
  ·intro _ a w2 hB' hP hF hd;exact aH <| mH rfl ⟨((hd 10 _ rfl rfl).1),aJ,aJ,aJ,aJ⟩
 ·intro o ho a w2 hB hF hd;obtain rfl:=fO ho;refine ⟨by rw [bJ rfl],?_⟩;refine nW 50 #[.tmp 19,.tmp 22,.tmp 25] _ rfl Tryz.call50 _ (sH ((hd 0 _ rfl rfl).1) ((hd 3 _ rfl rfl).1) ((hd 6 _ rfl rfl).1)) (by simp) ((Wx.out w2 hB).mono ?_);rintro e w3 ⟨x,rfl,hr⟩;exact ⟨x,rfl,⟨trivial,fun _=> (hr),aJ,aJ,aJ⟩,trivial⟩
 ·intro a w3 hP hF hS;obtain ⟨x26,Lc⟩:∃x,x=a.tmps.getD 26 undef:=⟨_,rfl⟩
  have P26:BM (cZ w.heap.size) w1 p F (.slice (some ⟨gr,0,none⟩) 5 kr) (.slice (some ⟨gs,0,none⟩) 5 ks) (vH 5) (MB 5) qr qs (dO 15,0,exS) w3 x26:=by rw [Lc];exact ((hS 7 _ rfl).2 (by kernel_rfl)).1 rfl
  obtain ⟨x18,Ld⟩:∃x,x=a.tmps.getD 18 undef:=⟨_,rfl⟩
  have P18:BM (cZ w.heap.size) w1 p F (.slice (some ⟨gr,0,none⟩) 5 kr) (.slice (some ⟨gs,0,none⟩) 5 ks) (vH 5) (MB 5) qr qs (dO 15,0,exS) w3 x18:=by rw [Ld];exact ((hS 8 _ rfl).2 (by kernel_rfl)).2.1 rfl
  obtain ⟨x27,hx27⟩:∃x,x=a.tmps.getD 27 undef:=⟨_,rfl⟩
  have P27:Fq (cZ w.heap.size) w1 p F (.slice (some ⟨gr,0,none⟩) 5 kr) (.slice (some ⟨gs,0,none⟩) 5 ks) (vH 5) (MB 5) qr qs (dO 15,0,exS) w3 x27:=by rw [hx27];exact ((hS 9 _ rfl).2 (by kernel_rfl)).2.2.1 rfl
  obtain ⟨x5,hx5⟩:∃x,x=a.tmps.getD 5 undef:=⟨_,rfl⟩
  have P5:Fq (cZ w.heap.size) w1 p F (.slice (some ⟨gr,0,none⟩) 5 kr) (.slice (some ⟨gs,0,none⟩) 5 ks) (vH 5) (MB 5) qr qs (dO 15,0,exS) w3 x5:=by rw [hx5];exact ((hS 11 _ rfl).2 (by kernel_rfl)).2.2.2 rfl
  have ha:=aI rfl rfl hF [_,_,_,_,_,_,_,x26,x18,x27,_,x5,_] rfl ⟨(hS 0 _ rfl).1,(hS 1 _ rfl).1,(hS 2 _ rfl).1,(hS 3 _ rfl).1,(hS 4 _ rfl).1,(hS 5 _ rfl).1,(hS 6 _ rfl).1,Lc.symm,Ld.symm,hx27.symm,(hS 10 _ rfl).1,hx5.symm,(hS 12 _ rfl).1,trivial⟩;simp only [puts,Act.put,dQ,dR,dS] at ha;subst ha;clear Lc Ld hx27 hx5;clear hS hF;have HP:=ak P5;clear P5 P26 P18 P27;obtain ⟨F3,hu3,hy3⟩:=HP.out;obtain ⟨a9,c9,e9⟩:=hy3.slice;subst e9;have U3:=ak hu3;have Y3:=ak hy3;obtain ⟨a0,c0,e0⟩:=dK.slice (hu3.ss.bs 0 (fD 0) rfl);have k0:w3.cell? ⟨gs,0,none⟩=some (.slice a0 9 c0):=(hu3.Km rfl (j:=0) (by decide)).trans (by rw [e0];rfl);have Ww:Hid (dK F3 w3 (.slice a0 9 c0) (fD 0)):=ak (by have:=hu3.ss.bs 0 (fD 0) rfl;unfold BsR at this;rw [e0] at this;exact this);have akY:gs<w3.heap.size:=hu3.ss.os.m.lt gs rfl;rw [iK] at Y3 ⊢;clear hu3 hy3 HP hP e0;obtain ⟨w4,hw4⟩:∃x,x=w3.alloc (.cells #[.string ⟨#[98]⟩,.string ⟨#[97]⟩,.slice a9 9 c9] 66):=⟨_,rfl⟩
  have ba:Below w3.heap.size w3 w4:=hw4▸(bN _ _).alloc (bA _) _;have BA:=ak ba;have U4:=ak (U3.out.below ba);have HDL:Hid (vC (Wn F3) 66 3 w4 (.slice (some ⟨w3.heap.size,0,none⟩) 1 1) Fw (fun _ i=> if i=0 then .string ⟨#[98]⟩ else if i=1 then .string ⟨#[97]⟩ else .slice a9 9 c9)):=ak (by
   refine ⟨⟨?_,fun b hb=> ?_⟩,fun j a hj=> ?_⟩
   ·rw [hw4];refine jH.new w3 _ 3 (by unfold maxLen;decide) rfl fun j hj i hi=> ?_;have hj:j<1:=hj;obtain rfl:j=0:=by omega
    rcases (by omega:i=0\/i=1\/i=2) with rfl | rfl | rfl<;> rfl
   ·obtain rfl:w3.heap.size=b:=by simpa [Value.ownBlock] using hb
    rw [hw4];refine Dh.row (heap_alloc_new w3 _) fun u hu=> ?_;have hu:u=.string ⟨#[98]⟩\/u=.string ⟨#[97]⟩\/u=.slice a9 9 c9:=by simpa using hu
    rcases hu with rfl | rfl | rfl<;> exact fun x e=> by cases e
   ·cases j with
    | zero=>
     obtain rfl:(⟨pF 1,pF 0,dO 15⟩:AL)=a:=fO hj;exact ⟨rfl,rfl,Y3.out.below ba⟩
    | succ j=> exact absurd hj (by simp [Fw]))
  have Zb:=ak (Pz (E:=(cZ w.heap.size).toEng) (X:=exS) (me:=pF 0) (sec:=fD 0) (D:=Fw) U4.out.m U4.out.ro (fun b hb=> (U4.out.rn b hb).1) HDL.out (fun b hb hf=> by
   obtain rfl:w3.heap.size=b:=by simpa [Value.ownBlock] using hb
   exact Nat.lt_irrefl _ ((cZ w.heap.size).lt U3.out.m hf)) (Ww.out.below ba) (by decide) (fun j d hj=> by
    have:d ∈ Fw:=List.mem_of_getElem? hj;obtain rfl:=List.mem_singleton.1 this;show (dO 15).length<=400;rw [iK];decide) (by show (dO _).length<=1000;rw [iK];decide) (show exS.l.length<=600 by decide))
  clear ba;go_wp2_with fail;rw [<-hw4];refine Zb.out.mono ?_;rintro e w5 ⟨i,vo,rfl,hi,F5,qo,ha⟩;obtain rfl:=acL _ hi;rw [(zU _).2.1];have hou:=ha.ou;rw [(zU _).1] at hou;have U5:=ak (U4.out.step ha.m ha.ch ha.fo);obtain ⟨go,ko,eo,hrow,_,_,hcell⟩:=hou.os.m.form (by decide);have eo:vo=.slice (some ⟨go,0,none⟩) 2 ko:=eo;subst eo;have HGO:Hid (go<w5.heap.size):=ak hrow.lt;have hb1:=hou.bs 1 ⟨pF 1,fD 1⟩ rfl;obtain ⟨a7,c7,e7⟩:=hb1.z1.slice;have e7:qo 1 1=.slice a7 9 c7:=e7;have G0:Hid (w5.cell? ⟨go,1 * 2+0,none⟩=some (.string (pF 1))):=ak ((hcell 1 (by decide) 0 (by decide)).trans (by rw [hb1.z0]));have G1:Hid (w5.cell? ⟨go,1 * 2+1,none⟩=some (.slice a7 9 c7)):=ak ((hcell 1 (by decide) 1 (by decide)).trans (by rw [e7]));have HY7:Hid (dK F5 w5 (.slice a7 9 c7) (fD 1)):=ak (by have:=hb1.z1;rwa [e7] at this);obtain ⟨a8,c8,e8⟩:=dK.slice (U5.out.ss.bs 1 (fD 1) rfl);have e8:qs 1 0=.slice a8 9 c8:=e8;have akF:Hid (w5.cell? ⟨gs,1 * 1,none⟩=some (.slice a8 9 c8)):=ak ((U5.out.Km rfl (j:=1) (by decide)).trans (by rw [e8]));have HY8:Hid (dK F5 w5 (.slice a8 9 c8) (fD 1)):=ak (by have:=U5.out.ss.bs 1 (fD 1) rfl;unfold BsR at this;rwa [e8] at this);have akX:Hid (gs<w5.heap.size):=ak (U5.out.ss.os.m.lt gs rfl);have HSM:Hid (∀w',Below w5.heap.size w5 w'->Calls Tryz.prog 19 #[.slice a7 9 c7,.slice a8 9 c8] w' fun e wz=> e=.returned (.bool true)/\Below w'.heap.size w' wz):=ak fun w' hb'=> by
   have h1:=(HY7.out.below hb').rd;have h2:=(HY8.out.below hb').rd;rw [show (fD 1).length=9 from iK _] at h1 h2;have:=aaO _ _ 9 9 (bf (fD 1)) (bf (fD 1)) w' h1 h2
   rwa [show ME 9 (bf (fD 1)) 9 (bf (fD 1))=true from by unfold ME;rw [decide_eq_true rfl,zh];rfl] at this
  have B5:Hid (Below w.heap.size w w5):=ak (B1.out.trans (U5.out.ch.kV.below B1.out.size fun b hb=> (cZ w.heap.size).hi H1.out hb));clear ha hi hou hrow hcell hb1 e7 e8 hw4 k0 akY;go_upto_region 7 with (fail)
  refine aT (n:=69) (by kernel_rfl) (by kernel_rfl) (by kernel_rfl) rfl
   (fun ii vv _=> (match ii with | 0=> vv=.int .i64 (0) | 1 | 2 | 4 | 5 | 6 | 9 | 10 | 11 | 16 | 17 | 18 | 26 | 27 | 28=> vv=.bool true | 3=> vv=.bool false | 7 | 12 | 19=> vv=.slice (some ⟨go,0,none⟩) 2 ko | 8=> vv=.int .i64 (2) | 13 | 20=> vv=.pointer (some ⟨go,1 * 2,none⟩) | 14=> vv=.pointer (some ⟨go,1 * 2+0,none⟩) | 15=> vv=.string (pF 1) | 21=> vv=.pointer (some ⟨go,1 * 2+1,none⟩) | 22=> vv=.slice a7 9 c7 | 23=> vv=.slice (some ⟨gs,0,none⟩) 5 ks | 24=> vv=.pointer (some ⟨gs,1 * 1,none⟩) | 25=> vv=.slice a8 9 c8 | _=> True))
   (fun w w'=> Below w.heap.size w w') (fun _ _ h=> h) (fun _ _ _ _ h _=> h) ?_ ?_
  ·refine cO ?_;refine ⟨?_,?_,?_,?_,?_,?_,?_,?_,?_,?_,?_,?_,?_,?_,?_,?_,?_,?_,?_,?_,?_,?_,?_,?_,?_,?_,?_,?_,?_,trivial⟩
   ·intro a w2 hB hF hd;exact aH <| dJ rfl (hF.same 6 rfl)
   ·intro a w2 hB hF hd;refine aH <| aP (Go.aZ.fI rfl (hd 0 _ rfl (aj rfl)) rfl) ?_;exact rfl
   ·intro a w2 hB hF hd;exact aH <| dJ rfl (hd 1 _ rfl (aj rfl))
   ·intro a w2 hB hF hd;refine aK (aL rfl rfl (hd 2 _ rfl (aj rfl)) rfl) ?_;exact dJ rfl (hF.same 8 rfl)
   ·intro a w2 hB hF hd;refine aK (aL rfl rfl (hd 2 _ rfl (aj rfl)) rfl) ?_;exact aP (qV rfl (hd 3 _ rfl (aj rfl))) rfl
   ·intro a w2 hB hF hd;exact aH <| aP (eZ rfl (hd 2 _ rfl (aj rfl))) ((hd 4 _ rfl (aj rfl)))
   ·intro a w2 hB hF hd;exact aH <| dJ rfl (hd 5 _ rfl (aj rfl))
   ·intro a w2 hB hF hd;refine aK (aL rfl rfl (hd 6 _ rfl (aj rfl)) rfl) ?_;exact dJ rfl (hF.same 7 rfl)
   ·intro a w2 hB hF hd;refine aK (aL rfl rfl (hd 6 _ rfl (aj rfl)) rfl) ?_;exact aP (kE rfl (hd 7 _ rfl (aj rfl)) Tryz.underlying67) rfl
   ·intro a w2 hB hF hd;refine aK (aL rfl rfl (hd 6 _ rfl (aj rfl)) rfl) ?_;refine aP (Go.aZ.fI rfl (hd 8 _ rfl (aj rfl)) rfl) ?_;exact rfl
   ·intro a w2 hB hF hd;exact aH <| aP (eZ rfl (hd 6 _ rfl (aj rfl))) ((hd 9 _ rfl (aj rfl)))
   ·intro a w2 hB hF hd;exact aH <| dJ rfl (hd 10 _ rfl (aj rfl))
   ·intro a w2 hB hF hd;refine aK (aL rfl rfl (hd 11 _ rfl (aj rfl)) rfl) ?_;exact dJ rfl (hF.same 7 rfl)
   ·intro a w2 hB hF hd;refine aK (aL rfl rfl (hd 11 _ rfl (aj rfl)) rfl) ?_;exact aP (bQ (i:=1) (sz:=2) rfl (hd 12 _ rfl (aj rfl)) rfl Tryz.underlying67 Tryz.sizeHdC (by decide)) rfl
   ·intro a w2 hB hF hd;refine aK (aL rfl rfl (hd 11 _ rfl (aj rfl)) rfl) ?_;exact aP (aW (m:=0) (k:=0) rfl (hd 13 _ rfl (aj rfl)) (by kernel_rfl)) rfl
   ·intro a w2 hB hF hd;refine aK (aL rfl rfl (hd 11 _ rfl (aj rfl)) rfl) ?_;exact aP (oN rfl (hd 14 _ rfl (aj rfl)) Tryz.underlying9 ((hB.cell (p:=⟨go,1 * 2+0,none⟩) HGO.out).trans G0.out)) rfl
   ·intro a w2 hB hF hd;refine aK (aL rfl rfl (hd 11 _ rfl (aj rfl)) rfl) ?_;exact aP (Gl rfl (hd 15 _ rfl (aj rfl)) rfl Tryz.underlying9) (congrArg Value.bool (show decide (pF 1=⟨#[98]⟩)=true from decide_eq_true rfl))
   ·intro a w2 hB hF hd;exact aH <| aP (eZ rfl (hd 11 _ rfl (aj rfl))) ((hd 16 _ rfl (aj rfl)))
   ·intro a w2 hB hF hd;exact aH <| dJ rfl (hd 17 _ rfl (aj rfl))
   ·intro a w2 hB hF hd;refine aK (aL rfl rfl (hd 18 _ rfl (aj rfl)) rfl) ?_;exact dJ rfl (hF.same 7 rfl)
   ·intro a w2 hB hF hd;refine aK (aL rfl rfl (hd 18 _ rfl (aj rfl)) rfl) ?_;exact aP (bQ (i:=1) (sz:=2) rfl (hd 19 _ rfl (aj rfl)) rfl Tryz.underlying67 Tryz.sizeHdC (by decide)) rfl
   ·intro a w2 hB hF hd;refine aK (aL rfl rfl (hd 18 _ rfl (aj rfl)) rfl) ?_;exact aP (aW (m:=0) (k:=1) rfl (hd 20 _ rfl (aj rfl)) (by kernel_rfl)) rfl
   ·intro a w2 hB hF hd;refine aK (aL rfl rfl (hd 18 _ rfl (aj rfl)) rfl) ?_;exact aP (bV rfl (hd 21 _ rfl (aj rfl)) jI ((hB.cell (p:=⟨go,1 * 2+1,none⟩) HGO.out).trans G1.out)) rfl
   ·intro a w2 hB hF hd;refine aK (aL rfl rfl (hd 18 _ rfl (aj rfl)) rfl) ?_;exact dJ rfl (hF.same 3 rfl)
   ·intro a w2 hB hF hd;refine aK (aL rfl rfl (hd 18 _ rfl (aj rfl)) rfl) ?_;exact aP (bQ (i:=1) (sz:=1) rfl (hd 23 _ rfl (aj rfl)) rfl Tryz.underlying55 Tryz.sizeBs (by decide)) rfl
   ·intro a w2 hB hF hd;refine aK (aL rfl rfl (hd 18 _ rfl (aj rfl)) rfl) ?_;exact aP (bV rfl (hd 24 _ rfl (aj rfl)) jI ((hB.cell (p:=⟨gs,1 * 1,none⟩) akX.out).trans akF.out)) rfl
   ·intro a w2 hB hF hd;refine aK (aL rfl rfl (hd 18 _ rfl (aj rfl)) rfl) ?_;refine aC _ _ _ rfl Tryz.call19 _ (args2 (hd 22 _ rfl (aj rfl)) (hd 25 _ rfl (aj rfl))) (by simp) ((HSM.out w2 hB).mono ?_);rintro e w3 ⟨rfl,hb⟩;exact ⟨_,rfl,rfl,hb⟩
   ·intro a w2 hB hF hd;exact aH <| aP (eZ rfl (hd 18 _ rfl (aj rfl))) ((hd 26 _ rfl (aj rfl)))
   ·intro a w2 hB hF hd;exact aH <| mH rfl (hd 27 _ rfl (aj rfl))
  ·intro a w6 hB hF hS;have ha:=aI rfl rfl hF [_,_,_,_,_,_,_,_,_,_,_,_,_,_,_,_,_,_,_,_,_,_,_,_,_,_,_,_,_] rfl ⟨hS 0 _ rfl,hS 1 _ rfl,hS 2 _ rfl,hS 3 _ rfl,hS 4 _ rfl,hS 5 _ rfl,hS 6 _ rfl,hS 7 _ rfl,hS 8 _ rfl,hS 9 _ rfl,hS 10 _ rfl,hS 11 _ rfl,hS 12 _ rfl,hS 13 _ rfl,hS 14 _ rfl,hS 15 _ rfl,hS 16 _ rfl,hS 17 _ rfl,hS 18 _ rfl,hS 19 _ rfl,hS 20 _ rfl,hS 21 _ rfl,hS 22 _ rfl,hS 23 _ rfl,hS 24 _ rfl,hS 25 _ rfl,hS 26 _ rfl,hS 27 _ rfl,hS 28 _ rfl,trivial⟩;simp only [puts,Act.put,dQ,dR,dS] at ha;subst ha;clear hS hF;have B6:=ak (B5.out.trans (hB.mono B5.out.size));clear hB;go_wp2;go_ret;exact ⟨rfl,B6.out⟩
end Go.Proofs.YtpcjekgfnfjbpaaGreat
namespace Go.Proofs.YtpcjekgfnfjbpaaGreat
open Go.RowKit Go.aZ Go.ChangeShapes Go.Maps
section
variable {B : Nat} {w w' w0 w1 w2 w3 : World} {p m g i j cap : Nat} {F F' F0 : Nat -> Prop} {v u vr vs vd vl x : Value} {l : List Int} {z : Nat -> Value} {qr qs qd : Nat -> Nat -> Value} {E : mP B} {X : E.σ} {ro : List nT} {ss : List (List Int)} {D : List AL} {d' : AL}
end
theorem MS {S:TS} (k:Int) (l:List Int) (h:S.Ok):(gW k S l).2.2.Ok:=by
 unfold gW
 split
 ·exact h.put _
 ·exact h
theorem UK {S:TS} (s:Int) (h:S.Ok):(jE S s).2.2.Ok:=by
 unfold jE
 split
 ·exact h.draw s
 ·exact h
theorem Mr:∀n,n<=5->(pQ n).Ok
 | 0,_=> TS.Ok.empty
 | n+1,hn=> by
  obtain ⟨A,C,h1,h2,h3⟩:=pU n (by omega);have a1:=UK 1 (Mr n (by omega));rw [h1] at a1;have a2:=MS 2 (fD n) a1;rw [h2] at a2;have a3:=MS 3 (fD n) a2;rw [h3] at a3;exact a3
theorem aas:(pQ 5).Ok:=Mr 5 (bA _)
def rpT (i:Nat):List Int:=(psT i).pb
section
variable {B : Nat} {w w0 : World} {p g j cap n a c : Nat} {F F0 : Nat -> Prop} {vr vs x : Value} {qr qs qd : Nat -> Nat -> Value} {E : mP B} {X : E.σ} {ro : List nT} {ss : List (List Int)} {D : List AL} {l : List Int}
end
end Go.Proofs.YtpcjekgfnfjbpaaGreat
