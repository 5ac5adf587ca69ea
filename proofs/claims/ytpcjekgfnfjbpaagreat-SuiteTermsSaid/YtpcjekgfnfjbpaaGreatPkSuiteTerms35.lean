/-
  Part 35 of the texts that the proof of SuiteTerms rests on, one after the other. Conditions: named in each theorem.
-/
import Derived.Test.YtpcjekgfnfjbpaaGreatPkSuiteTerms34
import Derived.Test.YtpcjekgfnfjbpaaGreatPkSuiteTerms29
set_option linter.unusedVariables false
set_option linter.unusedSimpArgs false
set_option maxRecDepth 100000
set_option maxHeartbeats 12800000
namespace Go.Proofs.YtpcjekgfnfjbpaaGreat
open Go.RowKit Go.aG Go.ChangeShapes Go.Maps
attribute [local go_sem ↓] Go.wp_at_zero Go.wp_at_succ
theorem _root_.Go.aG.aY.setRow (F:Nat→Prop) (w:World) (g:Nat) (cs:Array Value) (hF:F g):aY F w (w.setRow g cs):=
 have h:=aD (Below.refl 0 w) (Nat.zero_le g) cs
 ⟨h.os,h.tape,h.output,h.size,fun b _ hn=> setRow_other w g b cs fun e=> hn (e▸hF)⟩
def qV:ByteArray:=⟨#[100,114,97,119]⟩
def jB (sd:Nat→Int) (n:Nat):Nat→Int:=qh 32 sd (iX qV.size (fun _=> 8) 1) (nA qV.size (iO qV) (fun _=> 8) (fun _=> jL n) 1)
theorem zF (sd:Nat→Int) (n i:Nat):0≤jB sd n i∧jB sd n i<256:=rQ _ _ _ _ i
theorem yh (v:Value) (sd:Nat→Int) (n:Nat) (hf:∀i,i<32→0≤sd i∧sd i<256) (vc:Value) (w:World) (h:Rd .u8 w v 32 sd) (hc:jU w vc 1 (fun _=> 8) (fun _=> jL n)):
  Calls Tryz.prog 120 #[v,.string qV,vc] w fun e w'=> e=.returned (.tuple #[.agg (arr .u8 32 (jB sd n)),.int .i64 0])∧Below w.heap.size w w':=
 yg v 32 sd qV vc 1 (fun _=> 8) (fun _=> jL n) w h (by decide) (by decide) hf (by decide) hc (by decide) (fun j hj=> by decide) (fun j hj i hi=> sF _ _)
section
variable {B : Nat} {w w' w1 w2 w3 : World} {p q : Nat} {F G G' : Nat → Prop} {sd : Nat → Int} {n : Nat} {v u : Value} {l : List Int}
structure pO (B:Nat) (w:World) (p:Nat) (sd:Nat→Int) (n:Nat):Prop where
 r:cO w p 1 sd n (.pointer none)
 EC:∀i,i<32→0≤sd i∧sd i<256
 hp:B≤p
theorem pO.below (h:pO B w p sd n) (hb:Below w.heap.size w w'):pO B w' p sd n:=⟨h.r.below hb,h.EC,h.hp⟩
theorem pO.keep {H:Nat→Prop} (h:pO B w p sd n) (hc:aY H w w') (hF:¬ H p):pO B w' p sd n:=⟨h.r.keep hc hF,h.EC,h.hp⟩
theorem cO.next {kd m m':Int} {s:Value} (h:cO w p kd sd m s):cO (w.setCell ⟨p,33,none⟩ (.int .i64 m')) p kd sd m' s:=by
 refine ⟨h.row.setCell _ rfl _,?_,fun i hi=> ?_,?_,?_⟩
 ·rw [World.cell?_setCell_other _ _ _ _ (by intro e;cases e)];exact h.ck
 ·rw [World.cell?_setCell_other _ _ _ _ (by intro e;have:=congrArg Addr.off e;simp only at this;omega)];exact h.cs i hi
 ·exact World.cell?_setCell_same _ _ _ h.cn
 ·rw [World.cell?_setCell_other _ _ _ _ (by intro e;cases e)];exact h.cp
theorem pO.next (h:pO B w p sd n) {m:Nat}:pO B (w.setCell ⟨p,33,none⟩ (.int .i64 (m:Int))) p sd m:=⟨h.r.next,h.EC,h.hp⟩
theorem pO.CJ (h:pO B w p sd n) (m:Int):rC p (fun _=> False) w (w.setCell ⟨p,33,none⟩ (.int .i64 m)):=
 ⟨.set _ _ _ _ (.inl rfl),fun b hb _ i x hx=> by
  rw [World.cell?_setCell_other _ _ _ _ (by intro e;cases e;rw [h.r.cn] at hx;cases hx)];exact hx⟩
theorem ql (h:pO B w p sd n) (hn:n≤100000):Calls Tryz.prog 66 #[.pointer (some ⟨p,0,none⟩)] w fun e w'=> e=.returned (.agg (arr .u8 32 (jB sd n)))∧pO B w' p sd (n+1)∧rC p (fun _=> False) w w':=by
 have H:=Lib.hid h
 have HN:=Lib.hid hn
 have cn:=h.r.cn
 have Lb:Hid (p<w.heap.size):=Lib.hid h.r.row.lt
 clear h hn
 go_enter Tryz.func66,Tryz.ntmps66
 clear cn
 go_upto_region 1 with (fail)
 refine aF (fun w1=> aI .u8 w1 w.heap.size 32 (fun _=> 0)∧Below w.heap.size w w1) ⟨aI.newAt rfl (by rfl),(Below.refl _ _).alloc (Nat.le_refl _) _⟩ ?_
 rintro w1 ⟨hZ,hbel⟩
 have H1:=Lib.hid (H.out.below hbel)
 have cn:=H1.out.r.cn
 have HZ:=Lib.hid hZ
 have HB:=Lib.hid hbel
 clear hZ hbel
 go_wp2_with fail
 refine (sD (n:Int) 8 w1 (by decide) (by decide) (by omega) (by have:=HN.out;omega) (fun h=> absurd h (by decide))).mono ?_
 rintro e w2 ⟨u,rfl,hu,b2⟩
 have HU:=Lib.hid hu.rd
 obtain ⟨au,cu,rfl,_⟩:=hu.rd
 have H2:=Lib.hid (H1.out.below b2)
 have HZ2:=Lib.hid (HZ.out.kept b2)
 have HB2:=Lib.hid (HB.out.trans (b2.mono HB.out.size))
 clear hu b2 cn
 go_wp2_with fail
 have BA:=(Below.refl w2.heap.size w2).alloc (Nat.le_refl _) (.cells [Value.slice au 8 cu].toArray 23)
 refine (yh _ sd n H2.out.EC _ _ (H2.out.r.below BA).rd (new1 HU.out (Below.refl _ _))).mono ?_
 rintro e w3 ⟨rfl,b3⟩
 have B3:=Lib.hid (BA.trans (b3.mono (by rw [World.size_alloc];omega)))
 have H3:=Lib.hid (H2.out.below B3.out)
 have HZ3:=Lib.hid (HZ2.out.kept B3.out)
 have HB3:=Lib.hid (HB2.out.trans (B3.out.mono HB2.out.size))
 clear b3 BA
 obtain ⟨D,hD⟩:∃D,D=jB sd n:=⟨_,rfl⟩
 rw [←hD]
 have LC:=Lib.hid hD
 clear hD
 go_upto_region 3 with (refine bq rfl 22 _ _ rfl .u8 w3.heap.size 32 (fun _=> 0) D Tryz.size22 rfl rfl (aI.newAt rfl (by rfl)) ?_)
 refine aF (fun w4=> aI .u8 w4 w.heap.size 32 (fun _=> 0)∧aI .u8 w4 w3.heap.size 32 D∧Below w3.heap.size w3 w4) ⟨(HZ3.out.alloc _).bA _ (Nat.ne_of_lt HZ3.out.lt) _,(show aI .u8 (w3.alloc (.cells (arr .u8 32 (fun _=> 0)) 22)) w3.heap.size 32 (fun _=> 0) from aI.newAt rfl rfl).setRow 32 D,aD ((Below.refl _ _).alloc (Nat.le_refl _) _) (Nat.le_refl _) _⟩ ?_
 rintro w4 ⟨h4,h5,hbel⟩
 have H4:=Lib.hid (H3.out.below hbel)
 have BX:=Lib.hid (HB3.out.trans (hbel.mono HB3.out.size))
 have KS:=Lib.hid h4
 have HD4:=Lib.hid h5
 have GA:Hid (p<w.heap.size∧w.heap.size<w3.heap.size):=Lib.hid ⟨Lb.out,HZ3.out.lt⟩
 clear h4 h5 hbel
 have cn:=H4.out.r.cn
 have fr:=H4.out.r.row.free 33
 have hnb:(n:Int)<1000000:=by have:=HN.out;omega
 go_upto_region 4 with (fail)
 have CS:=H4.out.CJ ((n:Int)+1)
 refine aF (fun w5=> pO B w5 p sd (n+1)∧aI .u8 w5 w.heap.size 32 (fun _=> 0)∧aI .u8 w5 w3.heap.size 32 D∧rC p (fun _=> False) w w5) ⟨H4.out.next (m:=n+1),KS.out.jf CS.jf (fun e=> e.elim (fun e=> by have:=GA.out;omega) id),HD4.out.jf CS.jf (fun e=> e.elim (fun e=> by have:=GA.out;omega) id),(rC.of_below BX.out _).trans CS fun _ h=> h.elim⟩ ?_
 rintro w5 ⟨h5,Ia,hd5,c5⟩
 have H5:=Lib.hid h5
 have Jg:=Lib.hid Ia
 have HD5:=Lib.hid hd5
 have C5:=Lib.hid c5
 clear h5 Ia hd5 c5 CS cn fr hnb
 go_wp2_with (first
  | (refine gW rfl 22 _ rfl .u8 w3.heap.size 32 D 5 Tryz.underlying22 Tryz.size22 rfl HD5.out ?_)
  | (refine bq rfl 22 _ _ rfl .u8 w.heap.size 32 (fun _=> 0) D Tryz.size22 rfl rfl Jg.out ?_))
 obtain rfl:=LC.out
 have CR:=aY.setRow (fun b=> b=w.heap.size) w5 w.heap.size (arr .u8 32 (jB sd n)) rfl
 exact bodyPost_ret (bD rfl _ _ .u8 w.heap.size 32 _ 5 rfl (Jg.out.setRow _ _) Tryz.underlying22 Tryz.size22) rfl ⟨rfl,H5.out.keep CR fun e=> by have:=GA.out;omega,C5.out.trans (rC.AJ CR) fun b e=> .inr (by omega)⟩
end
end Go.Proofs.YtpcjekgfnfjbpaaGreat
namespace Go.Proofs.YtpcjekgfnfjbpaaGreat
open Go.RowKit Go.aG Go.ChangeShapes Go.Maps
attribute [local go_sem ↓] Go.wp_at_zero Go.wp_at_succ
inductive Su where
 | by (sd:Nat→Int) (n:Nat)
 | tm (S:TS)
abbrev UA:Type:=List Int × Int × Su
def ES (B:Nat) (w:World) (p:Nat) (F:Nat→Prop):Su→Prop
 | .by sd n=> pO B w p sd n∧∀b,¬ F b
 | .tm S=> fA B w p F S
section
variable {B : Nat} {w w' w1 w2 w3 : World} {p q : Nat} {F F' G G' : Nat → Prop} {sd : Nat → Int} {n : Nat} {v u v' : Value} {l l' : List Int} {X X' : Su} {S : TS}
theorem fA.Hr (h:fA B w p F S):p<w.heap.size∧B≤p:=by obtain ⟨q,G,h,_⟩:=h;exact ⟨h.r.row.lt,h.hp⟩
def Gh (B:Nat) (w:World) (p:Nat) (F:Nat→Prop) (v:Value) (r:UA) (w':World):Prop:=∃F',ES B w' p F' r.2.2∧bM F' w' v r.1∧rC p F w w'∧∀b,F' b→F b∨w.heap.size≤b
theorem bM.any {f:Nat→Int} {m:Nat} (h:Rd .u8 w v m f) (hf:∀i,i<m→0≤f i∧f i<256) (hF:∀b,¬ F b):bM F w v (rD m f):=⟨oO hf,h.rD,fun _ b _=> hF b⟩
def Su.draw:Su→Int→UA
 | .by sd n,s=> if isSort s=true then (rD 32 (jB sd n),0,.by sd (n+1)) else ([],2,.by sd n)
 | .tm S,s=> ((eU S s).1,(eU S s).2.1,.tm (eU S s).2.2)
theorem tN (h:ES B w p F (.by sd n)) (hb:Below w.heap.size w w') (er:Int):Gh B w p F (.slice none 0 0) ([],er,.by sd n) w':=
 ⟨F,⟨h.1.below hb,h.2⟩,bM.nil _ _,.of_below hb _,fun b hb=> .inl hb⟩
theorem yT {m k:Nat} {f:Nat→Int} (h:ES B w p F (.by sd n)) (hs:pO B w1 p sd k) (hc:rC p (fun _=> False) w w1) (hr:Rd .u8 w1 v m f) (hf:∀i,i<m→0≤f i∧f i<256) (er:Int):Gh B w p F v (rD m f,er,.by sd k) w1:=
 ⟨F,⟨hs,h.2⟩,bM.any hr hf h.2,⟨hc.jf.mono fun b _ hb=> hb.imp id fun h=> h.elim,fun b hb _=> hc.u8 b hb id⟩,fun b hb=> .inl hb⟩
theorem uS (h:ES B w p F (.by sd n)) (s:Int) (hn:n≤900):Calls Tryz.prog 26 #[.pointer (some ⟨p,0,none⟩),.int .i64 s] w fun e w'=> ∃u,e=.returned (.tuple #[u,.int .i64 (Su.draw (.by sd n) s).2.1])∧Gh B w p F u (Su.draw (.by sd n) s) w':=by
 have HQ:=Lib.hid h
 have HL:=Lib.hid hn
 have HW:=Lib.hid (aS h.1.r)
 obtain ⟨R,hR⟩:∃x,x=Su.draw (.by sd n) s:=⟨_,rfl⟩
 rw [←hR]
 have HR:=Lib.hid hR
 have ck:=h.1.r.ck
 clear hR h hn
 by_cases hs:1≤s∧s≤4
 ·have HS:Hid (isSort s=true):=Lib.hid (by unfold isSort;rw [decide_eq_true hs.1,decide_eq_true hs.2];rfl)
  have HE:Hid (R=(rD 32 (jB sd n),0,.by sd (n+1))):=Lib.hid (by rw [HR.out];exact if_pos HS.out)
  have h1:decide (s<1)=false:=decide_eq_false (by omega)
  have h2:decide (4<s)=false:=decide_eq_false (by omega)
  clear hs
  go_enter Tryz.func26,Tryz.ntmps26
  go_wp2_with fail
  refine HW.out.mono ?_
  rintro e w1 ⟨rfl,rfl⟩
  go_wp2_with fail
  refine (ql HQ.out.1 (by have:=HL.out;omega)).mono ?_
  rintro e w2 ⟨rfl,h2,c2⟩
  have H2:=Lib.hid h2
  have C2:=Lib.hid c2
  clear h2 c2 ck
  obtain ⟨D,hD⟩:∃D,D=jB sd n:=⟨_,rfl⟩
  rw [←hD] at HE ⊢
  have LD:Hid (∀i,i<32→0≤D i∧D i<256):=Lib.hid fun i _=> hD▸zF sd n i
  clear hD
  go_upto_region 8 with (refine bq rfl 22 _ _ rfl .u8 w2.heap.size 32 (fun _=> 0) D Tryz.size22 rfl rfl (aI.newAt rfl (by rfl)) ?_)
  refine aF (fun w4=> aI .u8 w4 w2.heap.size 32 D∧Below w2.heap.size w2 w4) ⟨(show aI .u8 (w2.alloc (.cells (arr .u8 32 (fun _=> 0)) 22)) w2.heap.size 32 (fun _=> 0) from aI.newAt rfl rfl).setRow 32 D,aD ((Below.refl _ _).alloc (Nat.le_refl _) _) (Nat.le_refl _) _⟩ ?_
  rintro w4 ⟨h4,b4⟩
  have HD:=Lib.hid (yT HQ.out (H2.out.below b4) (C2.out.trans (rC.of_below b4 (fun _=> False)) fun _ h=> .inl h) (h4.rd (by decide)) LD.out 0)
  clear h4 b4
  go_wp2
  go_ret2
  rw [HE.out]
  exact ⟨_,rfl,HD.out⟩
 ·have HE:Hid (R=([],2,.by sd n)):=Lib.hid (by
   rw [HR.out]
   refine if_neg fun h=> ?_
   simp only [isSort,Bool.and_eq_true,decide_eq_true_eq] at h
   exact hs h)
  by_cases h1:s<1
  ·have h1':decide (s<1)=true:=decide_eq_true h1
   clear hs h1
   go_enter Tryz.func26,Tryz.ntmps26
   go_wp2_with fail
   refine HW.out.mono ?_
   rintro e w1 ⟨rfl,rfl⟩
   go_wp2
   go_ret2
   rw [HE.out]
   exact ⟨_,rfl,tN HQ.out (Below.refl _ _) 2⟩
  ·have h1':decide (s<1)=false:=decide_eq_false h1
   have h2':decide (4<s)=true:=decide_eq_true (by omega)
   clear hs h1
   go_enter Tryz.func26,Tryz.ntmps26
   go_wp2_with fail
   refine HW.out.mono ?_
   rintro e w1 ⟨rfl,rfl⟩
   go_wp2
   go_ret2
   rw [HE.out]
   exact ⟨_,rfl,tN HQ.out (Below.refl _ _) 2⟩
end
end Go.Proofs.YtpcjekgfnfjbpaaGreat
namespace Go.Proofs.YtpcjekgfnfjbpaaGreat
open Go.RowKit Go.aG Go.ChangeShapes Go.Maps
attribute [local go_sem ↓] Go.wp_at_zero Go.wp_at_succ
section
variable {B : Nat} {w w' w1 w2 w3 : World} {p q : Nat} {F F' G G' : Nat → Prop} {sd : Nat → Int} {n : Nat} {v u v' : Value} {l l' : List Int} {X X' Md : Su} {S S' : TS}
theorem kZ (h:S.Ok) {t:Tm} (ht:cK S t=true):∃k:Nat,(dI S t).1=k∧(S.put t).l[k]? =some t∧k<(S.put t).l.length:=by
 unfold dI TS.put
 rw [if_pos ht]
 by_cases hin:t ∈ S.l
 ·rw [if_pos hin,if_neg (fun h=> h.2 hin)]
  exact ⟨mI S.l t,rfl,dR hin,gy hin⟩
 ·rw [if_neg hin,if_pos ⟨ht,hin⟩]
  refine ⟨S.l.length,rfl,?_,by rw [lD];omega⟩
  show (S.l++ [t])[S.l.length]? =some t
  rw [List.getElem?_append_right (Nat.le_refl _),Nat.sub_self]
  rfl
theorem oM (t:Tm):S.l <+:(S.put t).l∧S.tx <+:(S.put t).tx:=by
 unfold TS.put
 split
 ·exact ⟨List.prefix_append _ _,List.prefix_refl _⟩
 ·exact ⟨List.prefix_refl _,List.prefix_refl _⟩
theorem xX {s:Int} (hw:S.few) (hl:S.l.length≤900) (hs:isSort s=true):S.draw s=S.add (1,s,je S.l s):=if_pos ⟨hs,by have:=hw s;unfold dX;omega⟩
end
end Go.Proofs.YtpcjekgfnfjbpaaGreat
namespace Go.Proofs.YtpcjekgfnfjbpaaGreat
open Go.RowKit Go.aG Go.ChangeShapes Go.Maps
attribute [local go_sem ↓] Go.wp_at_zero Go.wp_at_succ
def kM (kd:Int) (sd:Nat→Int) (s:Value):Array Value:=(.int .i64 kd::(vals .u8 32 sd++ [.int .i64 0,s])).toArray
theorem Au (kd:Int) (sd:Nat→Int) (s:Value):(kM kd sd s)[0]? =some (.int .i64 kd):=rfl
theorem Ar (kd:Int) (sd:Nat→Int) (s:Value) {i:Nat} (h:i<32):(kM kd sd s)[1+i]? =some (.int .u8 (sd i)):=by
 unfold kM
 rw [List.getElem?_toArray,Nat.add_comm,List.getElem?_cons_succ,List.getElem?_append_left (by simpa using h)]
 exact aJ h
theorem yV (kd:Int) (sd:Nat→Int) (s:Value):(kM kd sd s)[33]? =some (.int .i64 0):=rfl
theorem yU (kd:Int) (sd:Nat→Int) (s:Value):(kM kd sd s)[34]? =some s:=rfl
theorem cO.new (w:World) (kd:Int) (sd:Nat→Int) (s:Value):cO (w.alloc (.cells (kM kd sd s) 105)) w.heap.size kd sd 0 s:=by
 have hb:=heap_alloc_new w (.cells (kM kd sd s) 105)
 have hc:=fun i=> cell_of_row _ _ i _ _ (0,0) hb
 exact ⟨⟨_,hb,rfl⟩,(hc 0).trans (Au _ _ _),fun i hi=> (hc (1+i)).trans (Ar _ _ _ hi),(hc 33).trans (yV _ _ _),(hc 34).trans (yU _ _ _)⟩
theorem jg.base {B B':Nat} {w:World} {p:Nat} {F:Nat→Prop} {S:TS} (h:jg B w p F S) (hB:B'≤B):jg B' w p F S:=by
 obtain ⟨mb,mt,vl,vb,tv,h1,h2,h3⟩:=h
 exact ⟨mb,mt,vl,vb,tv,⟨⟨h1.row,h1.c0,h1.c1,h1.c2,h1.c3,h1.nx,h1.ls,h1.am,h1.xm,h1.bs,fun j b hb=> (h1.bt j b hb).mono hB,h1.ne,Nat.le_trans hB h1.hp,Nat.le_trans hB h1.hb,Nat.le_trans hB h1.hm,fun b hb=> Nat.le_trans hB (h1.hl b hb),fun b hb=> Nat.le_trans hB (h1.hv b hb)⟩,h1.nd,h1.txn,h1.all,h1.AA,h1.zT⟩,h2,h3⟩
theorem fA.base {B B':Nat} {w:World} {p:Nat} {F:Nat→Prop} {S:TS} (h:fA B w p F S) (hB:B'≤B):fA B' w p F S:=by
 obtain ⟨q,G,h,hF⟩:=h
 exact ⟨q,G,⟨h.r,h.st.base hB,h.few,Nat.le_trans hB h.hp,h.np⟩,hF⟩
theorem jZ (w:World):Calls Tryz.prog 44 #[] w fun e w'=> ∃p F,e=.returned (.pointer (some ⟨p,0,none⟩))∧fA w.heap.size w' p F ⟨[], []⟩∧Below w.heap.size w w':=by
 go_enter Tryz.func44,Tryz.ntmps44
 go_wp2_with fail
 refine (wm w).mono ?_
 rintro e w1 ⟨q,G,rfl,h1,b1⟩
 have H1:=Lib.hid h1
 have B1:=Lib.hid b1
 clear h1 b1
 go_wp2
 go_ret
 have hr:=cO.new w1 2 (fun _=> 0) (.pointer (some ⟨q,0,none⟩))
 have ba:=(Below.refl w1.heap.size w1).alloc (Nat.le_refl _) (.cells (kM 2 (fun _=> 0) (.pointer (some ⟨q,0,none⟩))) 105)
 exact ⟨_,fun b=> b=w1.heap.size∨G b,rfl,⟨q,G,⟨hr,H1.out.below ba,TS.few.nil,B1.out.size,fun hg=> by have:=H1.out.lt hg;omega⟩,fun _=> Iff.rfl⟩,B1.out.trans (ba.mono B1.out.size)⟩
theorem vK (sd:Nat→Int):Array.foldl (fun (cs:Array Value) (x:Value × Nat)=> cs.setIfInBounds (1+x.snd) x.fst) #[.int .i64 1,.int .u8 0,.int .u8 0,.int .u8 0,.int .u8 0,.int .u8 0,.int .u8 0,.int .u8 0,.int .u8 0,.int .u8 0,.int .u8 0,.int .u8 0,.int .u8 0,.int .u8 0,.int .u8 0,.int .u8 0,.int .u8 0,.int .u8 0,.int .u8 0,.int .u8 0,.int .u8 0,.int .u8 0,.int .u8 0,.int .u8 0,.int .u8 0,.int .u8 0,.int .u8 0,.int .u8 0,.int .u8 0,.int .u8 0,.int .u8 0,.int .u8 0,.int .u8 0,.int .i64 0,.pointer none] (arr .u8 32 sd).zipIdx 0 32=kM 1 sd (.pointer none):=by kernel_rfl
theorem qo (sd:Nat→Int) (hs:∀i,i<32→0≤sd i∧sd i<256) (w:World):Calls Tryz.prog 12 #[.agg (arr .u8 32 sd)] w fun e w'=> ∃p,e=.returned (.pointer (some ⟨p,0,none⟩))∧pO w.heap.size w' p sd 0∧Below w.heap.size w w':=by
 have HS:=Lib.hid hs
 clear hs
 go_enter Tryz.func12,Tryz.ntmps12
 go_upto_region 1 with (fail)
 refine aF (fun w1=> aI .u8 w1 w.heap.size 32 sd∧Below w.heap.size w w1) ⟨aI.newAt rfl rfl,(Below.refl _ _).alloc (Nat.le_refl _) _⟩ ?_
 rintro w1 ⟨h1,b1⟩
 have H1:=Lib.hid h1
 have B1:=Lib.hid b1
 clear h1 b1
 go_wp2_with (refine gW rfl 22 _ rfl .u8 w.heap.size 32 sd 5 Tryz.underlying22 Tryz.size22 rfl H1.out ?_)
 rw [vK]
 go_ret
 have hr:=cO.new w1 1 sd (.pointer none)
 have ba:=(Below.refl w1.heap.size w1).alloc (Nat.le_refl _) (.cells (kM 1 sd (.pointer none)) 105)
 have HR:Hid (pO w.heap.size (w1.alloc (.cells (kM 1 sd (.pointer none)) 105)) w1.heap.size sd 0∧Below w.heap.size w (w1.alloc (.cells (kM 1 sd (.pointer none)) 105))):=Lib.hid ⟨⟨hr,HS.out,B1.out.size⟩,B1.out.trans (ba.mono B1.out.size)⟩
 exact ⟨w1.heap.size,rfl,HR.out⟩
end Go.Proofs.YtpcjekgfnfjbpaaGreat
namespace Go.Proofs.YtpcjekgfnfjbpaaGreat
open Go.RowKit Go.aG Go.ChangeShapes Go.Maps
attribute [local go_sem ↓] Go.wp_at_zero Go.wp_at_succ
theorem zO:(Value.agg #[.int .u8 1,.int .u8 0,.int .u8 0,.int .u8 0,.int .u8 0,.int .u8 0,.int .u8 0,.int .u8 0,.int .u8 0,.int .u8 0,.int .u8 0,.int .u8 0,.int .u8 0,.int .u8 0,.int .u8 0,.int .u8 0,.int .u8 0,.int .u8 0,.int .u8 0,.int .u8 0,.int .u8 0,.int .u8 0,.int .u8 0,.int .u8 0,.int .u8 0,.int .u8 0,.int .u8 0,.int .u8 0,.int .u8 0,.int .u8 0,.int .u8 0,.int .u8 0])=.agg (arr .u8 32 fun i=> if i=0 then 1 else 0):=by rfl
theorem zM (w:World):Calls Tryz.prog 11 #[] w fun e w'=> e=.returned (.bool true)∧Below w.heap.size w w':=by
 go_enter Tryz.func11,Tryz.ntmps11
 go_wp2_with fail
 refine (jZ w).mono ?_
 rintro e w1 ⟨p,F,rfl,h1,b1⟩
 have H1:=Lib.hid h1
 have B1:=Lib.hid b1
 clear h1 b1
 go_wp2_with fail
 refine (nR H1.out 3 (by decide)).mono ?_
 rw [show eU ⟨[], []⟩ 3=(bB 0,0,TS.draw ⟨[], []⟩ 3) from rfl]
 rintro e w2 ⟨u,rfl,F2,h2,y2,c2,f2⟩
 have Y2:=Lib.hid y2.rd
 have B2:=Lib.hid (B1.out.trans (c2.below B1.out.size fun b hb=> H1.out.hi hb))
 obtain ⟨au,cu,eu,_⟩:=y2.rd
 subst eu
 clear h2 y2 c2 f2
 go_wp2_with fail
 rw [zO]
 refine (qo (fun i=> if i=0 then 1 else 0) (fun i _=> by split<;> decide) w2).mono ?_
 rintro e w3 ⟨p3,rfl,h3,b3⟩
 have H3:=Lib.hid h3
 have B3:=Lib.hid (B2.out.trans (b3.mono B2.out.size))
 have Y3:=Lib.hid (Y2.out.below b3)
 clear h3 b3
 go_wp2_with fail
 refine (uS (F:=fun _=> False) ⟨H3.out,fun _=> id⟩ 3 (by decide)).mono ?_
 rintro e w4 ⟨u4,rfl,F4,h4,y4,c4,f4⟩
 have Y4:=Lib.hid (Y3.out.KH c4 fun _ _ _=> id)
 have B4:=Lib.hid (B3.out.trans (c4.jf.below (B:=w.heap.size) B3.out.size fun b hb=> hb.elim (fun e=> e▸Nat.le_trans B2.out.size H3.out.hp) False.elim))
 obtain ⟨a4,d4,e4,_⟩:=y4.rd
 have hl:(Su.draw (.by (fun i=> if i=0 then 1 else 0) 0) 3).1.length=32:=iW _ _
 have he:(Su.draw (.by (fun i=> if i=0 then 1 else 0) 0) 3).2.1=0:=rfl
 rw [hl] at e4
 rw [he]
 subst e4
 clear h4 y4 c4 f4 hl he
 rw [dH]
 have HS:=Lib.hid (fun (w5:World) (hb:Below w4.heap.size w4 w5) (hl:bM (fun _=> False) w5 (.slice (some ⟨w4.heap.size,0,none⟩) 9 9) (bB 0))=> oC _ _ 9 9 (bf (bB 0)) (bf (bB 0)) w5 (by have:=(Y4.out.below hb);rwa [dH] at this) (by have:=hl.rd;rwa [dH] at this))
 rw [show iH 9 (bf (bB 0)) 9 (bf (bB 0))=true from by unfold iH;rw [decide_eq_true rfl,fV];rfl] at HS
 go_wp2_with fail
 refine (HS.out _ ((Below.refl _ _).alloc (Nat.le_refl _) _) (ug 5 (fun _ h=> h.elim) 0 (.inl rfl))).mono ?_
 rintro e w6 ⟨rfl,b6⟩
 have B6:=Lib.hid ((B4.out.alloc B4.out.size _).trans (b6.mono (by rw [World.size_alloc];have:=B4.out.size;omega)))
 clear b6
 go_wp2
 go_ret
 exact ⟨rfl,B6.out⟩
end Go.Proofs.YtpcjekgfnfjbpaaGreat
namespace Go.Proofs.YtpcjekgfnfjbpaaGreat
open Go.RowKit Go.aG Go.ChangeShapes Go.Maps
section
variable {S S' : TS} {a b x : List Int}
theorem jF (hok:S.Ok) (b:List Int):aM (S.text b) (dY S b)=(b,true):=by
 unfold aM dY TS.text
 by_cases hm:b ∈ S.tx
 ·rw [if_pos hm,if_pos hm]
  have h9:=hok.all _ (gy hm)
  rw [if_pos (bJ.2 ⟨_,rfl,_,dR h9,.inr rfl⟩),Int.toNat_natCast,fQ (dR h9),Int.toNat_natCast,List.getD_eq_getElem?_getD,dR hm]
  rfl
 ·rw [if_neg hm,if_neg hm]
  have h9:(S.l++ [((9,(S.tx.length:Int),0):Tm)])[S.l.length]? =some (9,(S.tx.length:Int),0):=by simp
  rw [if_pos (bJ.2 ⟨_,rfl,_,h9,.inr rfl⟩),Int.toNat_natCast,fQ h9,Int.toNat_natCast,List.getD_eq_getElem?_getD]
  simp
theorem nX (hok:S.Ok) (h1:S.l <+:S'.l) (h2:S.tx <+:S'.tx) {n:Int} (h:aM S n=(x,true)):aM S' n=(x,true):=by
 unfold aM at h ⊢
 by_cases hn:aX S.l n 9=true
 ·rw [if_pos hn] at h
  obtain ⟨a,rfl,t,ht,hk⟩:=bJ.1 hn
  have Ce:t.1=9:=hk.elim (fun h=> absurd h (by decide)) id
  obtain ⟨j,hj,hlt⟩:∃j:Nat,t.2.1=j∧j<S.tx.length:=by
   rcases hok.ok a _ ht with ⟨h1,_⟩ | ⟨h1,_⟩ | ⟨h1,_⟩ | ⟨h1,_⟩ | ⟨h1,_⟩ | ⟨_,⟨j,h1,h2⟩,_⟩ | ⟨h1,_⟩<;> first | exact ⟨j,h1,h2⟩ | omega
  rw [if_pos (bJ.2 ⟨a,rfl,t,gu h1 ht,.inr Ce⟩)]
  rw [Int.toNat_natCast,fQ ht,hj,Int.toNat_natCast,List.getD_eq_getElem?_getD,List.getElem?_eq_getElem hlt] at h
  rw [Int.toNat_natCast,fQ (gu h1 ht),hj,Int.toNat_natCast,List.getD_eq_getElem?_getD,gu h2 (List.getElem?_eq_getElem hlt)]
  exact h
 ·rw [if_neg hn] at h
  cases h
theorem yS (S:TS) (x:List Int):S.l <+:(S.text x).l∧S.tx <+:(S.text x).tx:=by
 unfold TS.text
 split
 ·exact ⟨List.prefix_refl _,List.prefix_refl _⟩
 ·exact ⟨List.prefix_append _ _,List.prefix_append _ _⟩
structure Jc (S S':TS) (d:nI) (a b:List Int) (m:Nat) (t:Tm):Prop where
 k1:d.1=1→t.1=1∧t.2.1=d.2.1
 k2:d.1=2∨d.1=3∨d.1=6∨d.1=7→∃n:Nat,aR S a=some n∧t.1=d.1∧t.2.1=n
 k4:d.1=4∨d.1=5→∃n m:Nat,aR S a=some n∧aR S b=some m∧t.1=d.1∧t.2.1=n∧t.2.2=m
 k8:d.1=8→∃n:Nat,aR S a=some n∧t.1=8∧t.2.1=n∧aM S' t.2.2=(d.2.2.2,true)
 k9:d.1=9→t.1=9∧aM S' m=(d.2.2.2,true)
 k0:¬ (1≤d.1∧d.1≤9)→t.1=10∧aM S' t.2.1=(d.2.2.2,true)
theorem BH (hS:S.Ok) (hw:S.few) (hl:S.l.length≤900) (d:nI) (ha:okB a) (hb:okB b) (h:(rF S d a b).2.1=0):
  ∃(m:Nat) (t:Tm),(rF S d a b).2.2.l[m]? =some t∧(rF S d a b).1=bB m∧Jc S (rF S d a b).2.2 d a b m t:=by
 obtain ⟨k,A,C,x⟩:=d
 have one:∀k:Int,k=2∨k=3∨k=6∨k=7→(bE k S a).2.1=0→∃(m:Nat) (t:Tm),(bE k S a).2.2.l[m]? =some t∧(bE k S a).1=bB m∧∃n:Nat,aR S a=some n∧t=(k,(n:Int),0):=by
  intro k hk h
  unfold bE at h ⊢
  cases hn:aR S a with
  | none=> rw [hn] at h;cases h
  | some n=>
   rw [hn] at h
   obtain ⟨m,g1,g2,g3⟩:=kZ hS (xg hk (dS ha hn))
   exact ⟨m,_,g2,congrArg bB g1,n,rfl,rfl⟩
 have two:∀k:Int,k=4∨k=5→(dh k S a b).2.1=0→∃(m:Nat) (t:Tm),(dh k S a b).2.2.l[m]? =some t∧(dh k S a b).1=bB m∧∃n n':Nat,aR S a=some n∧aR S b=some n'∧t=(k,(n:Int),(n':Int)):=by
  intro k hk h
  unfold dh at h ⊢
  cases hn:aR S a with
  | none=> rw [hn] at h;cases h
  | some n=>
   cases hm:aR S b with
   | none=> rw [hn,hm] at h;cases h
   | some n'=>
    rw [hn,hm] at h
    simp only at h ⊢
    by_cases hb':k=4∧uj S n≠2
    ·rw [if_pos hb'] at h;cases h
    ·rw [if_neg hb'] at h ⊢
     obtain ⟨m,g1,g2,g3⟩:=kZ hS (wR (k:=k) (hk.imp (fun e=> ⟨e,Classical.byContradiction fun h2=> hb' ⟨e,h2⟩⟩) id) (dS ha hn) (dS hb hm))
     exact ⟨m,_,g2,congrArg bB g1,n,n',rfl,rfl,rfl⟩
 unfold rF at h ⊢
 simp only at h ⊢
 by_cases h1:k=1
 ·subst h1
  rw [if_pos rfl] at h ⊢
  unfold eU at h ⊢
  by_cases hs:isSort A=true
  ·rw [if_pos hs] at h ⊢
   refine ⟨S.l.length,(1,A,je S.l A),?_,rfl,⟨fun _=> ⟨rfl,rfl⟩,fun e=> by simp only at e;omega,fun e=> by simp only at e;omega,fun e=> by simp only at e;omega,fun e=> by simp only at e;omega,fun e=> by simp only at e;omega⟩⟩
   rw [xX hw hl hs]
   simp [TS.add]
  ·rw [if_neg hs] at h;cases h
 rw [if_neg h1] at h ⊢
 by_cases h2:k=2
 ·subst h2
  rw [if_pos rfl] at h ⊢
  obtain ⟨m,t,g1,g2,n,g3,rfl⟩:=one 2 (by decide) h
  exact ⟨m,_,g1,g2,⟨fun e=> by simp only at e;omega,fun _=> ⟨n,g3,rfl,rfl⟩,fun e=> by simp only at e;omega,fun e=> by simp only at e;omega,fun e=> by simp only at e;omega,fun e=> by simp only at e;omega⟩⟩
 rw [if_neg h2] at h ⊢
 by_cases h3:k=3
 ·subst h3
  rw [if_pos rfl] at h ⊢
  obtain ⟨m,t,g1,g2,n,g3,rfl⟩:=one 3 (by decide) h
  exact ⟨m,_,g1,g2,⟨fun e=> by simp only at e;omega,fun _=> ⟨n,g3,rfl,rfl⟩,fun e=> by simp only at e;omega,fun e=> by simp only at e;omega,fun e=> by simp only at e;omega,fun e=> by simp only at e;omega⟩⟩
 rw [if_neg h3] at h ⊢
 by_cases h4:k=4
 ·subst h4
  rw [if_pos rfl] at h ⊢
  obtain ⟨m,t,g1,g2,n,n',g3,g4,rfl⟩:=two 4 (by decide) h
  exact ⟨m,_,g1,g2,⟨fun e=> by simp only at e;omega,fun e=> by simp only at e;omega,fun _=> ⟨n,n',g3,g4,rfl,rfl,rfl⟩,fun e=> by simp only at e;omega,fun e=> by simp only at e;omega,fun e=> by simp only at e;omega⟩⟩
 rw [if_neg h4] at h ⊢
 by_cases h5:k=5
 ·subst h5
  rw [if_pos rfl] at h ⊢
  obtain ⟨m,t,g1,g2,n,n',g3,g4,rfl⟩:=two 5 (by decide) h
  exact ⟨m,_,g1,g2,⟨fun e=> by simp only at e;omega,fun e=> by simp only at e;omega,fun _=> ⟨n,n',g3,g4,rfl,rfl,rfl⟩,fun e=> by simp only at e;omega,fun e=> by simp only at e;omega,fun e=> by simp only at e;omega⟩⟩
 rw [if_neg h5] at h ⊢
 by_cases h6:k=6
 ·subst h6
  rw [if_pos rfl] at h ⊢
  obtain ⟨m,t,g1,g2,n,g3,rfl⟩:=one 6 (by decide) h
  exact ⟨m,_,g1,g2,⟨fun e=> by simp only at e;omega,fun _=> ⟨n,g3,rfl,rfl⟩,fun e=> by simp only at e;omega,fun e=> by simp only at e;omega,fun e=> by simp only at e;omega,fun e=> by simp only at e;omega⟩⟩
 rw [if_neg h6] at h ⊢
 by_cases h7:k=7
 ·subst h7
  rw [if_pos rfl] at h ⊢
  obtain ⟨m,t,g1,g2,n,g3,rfl⟩:=one 7 (by decide) h
  exact ⟨m,_,g1,g2,⟨fun e=> by simp only at e;omega,fun _=> ⟨n,g3,rfl,rfl⟩,fun e=> by simp only at e;omega,fun e=> by simp only at e;omega,fun e=> by simp only at e;omega,fun e=> by simp only at e;omega⟩⟩
 rw [if_neg h7] at h ⊢
 obtain ⟨a',ha',hat,_,hak⟩:=kV hS x
 by_cases h8:k=8
 ·subst h8
  rw [if_pos rfl] at h ⊢
  unfold iG at h ⊢
  cases hn:aR S a with
  | none=> rw [hn] at h;cases h
  | some n=>
   simp only
   rw [ha']
   obtain ⟨m,g1,g2,g3⟩:=kZ (hS.text x) (tY (n:=n) (m:=a') (Nat.lt_of_lt_of_le (dS ha hn) (yS S x).1.length_le) hat hak)
   exact ⟨m,_,g2,congrArg bB g1,⟨fun e=> by simp only at e;omega,fun e=> by simp only at e;omega,fun e=> by simp only at e;omega,fun _=> ⟨n,hn,rfl,rfl,nX (hS.text x) (oM _).1 (oM _).2 (ha'▸jF hS x)⟩,fun e=> by simp only at e;omega,fun e=> by simp only at e;omega⟩⟩
 rw [if_neg h8] at h ⊢
 by_cases h9:k=9
 ·subst h9
  rw [if_pos rfl]
  unfold kJ
  simp only
  rw [ha']
  refine ⟨a',gK (S.text x).l a',lF hat,rfl,⟨fun e=> by simp only at e;omega,fun e=> by simp only at e;omega,fun e=> by simp only at e;omega,fun e=> by simp only at e;omega,fun _=> ⟨hak,ha'▸jF hS x⟩,fun e=> by simp only at e;omega⟩⟩
 rw [if_neg h9]
 unfold eX
 simp only
 rw [ha']
 obtain ⟨m,g1,g2,g3⟩:=kZ (hS.text x) (xk hat hak)
 exact ⟨m,_,g2,congrArg bB g1,⟨fun e=> absurd e h1,fun e=> by simp only at e;omega,fun e=> by simp only at e;omega,fun e=> absurd e h8,fun e=> absurd e h9,fun _=> ⟨rfl,nX (hS.text x) (oM _).1 (oM _).2 (ha'▸jF hS x)⟩⟩⟩
theorem zH (d:nI) (h:(rF S d a b).2.1≠0):(rF S d a b).1= [] ∧(rF S d a b).2.2=S∧
  ((d.1=1∧(d.2.1<1∨4<d.2.1))∨((2≤d.1∧d.1≤8)∧aR S a=none)∨((d.1=4∨d.1=5)∧(∃n,aR S a=some n)∧aR S b=none)∨(d.1=4∧(∃n:Nat,aR S a=some n∧uj S n≠2)∧∃m,aR S b=some m)):=by
 obtain ⟨k,A,C,x⟩:=d
 have one:∀k:Int,(bE k S a).2.1≠0→(bE k S a).1= [] ∧(bE k S a).2.2=S∧aR S a=none:=by
  intro k h
  unfold bE at h ⊢
  cases hn:aR S a with
  | none=> exact ⟨rfl,rfl,rfl⟩
  | some n=> rw [hn] at h;exact absurd rfl h
 have two:∀k:Int,(dh k S a b).2.1≠0→(dh k S a b).1= [] ∧(dh k S a b).2.2=S∧(aR S a=none∨((∃n,aR S a=some n)∧aR S b=none)∨(k=4∧(∃n:Nat,aR S a=some n∧uj S n≠2)∧∃m,aR S b=some m)):=by
  intro k h
  unfold dh at h ⊢
  cases hn:aR S a with
  | none=> exact ⟨rfl,rfl,.inl rfl⟩
  | some n=>
   cases hm:aR S b with
   | none=> exact ⟨rfl,rfl,.inr (.inl ⟨⟨n,rfl⟩,rfl⟩)⟩
   | some n'=>
    rw [hn,hm] at h
    simp only at h ⊢
    by_cases hb':k=4∧uj S n≠2
    ·rw [if_pos hb']
     exact ⟨rfl,rfl,.inr (.inr ⟨hb'.1,⟨n,rfl,hb'.2⟩,n',rfl⟩)⟩
    ·rw [if_neg hb'] at h
     exact absurd rfl h
 unfold rF at h ⊢
 simp only at h ⊢
 by_cases h1:k=1
 ·subst h1
  rw [if_pos rfl] at h ⊢
  unfold eU at h ⊢
  by_cases hs:isSort A=true
  ·rw [if_pos hs] at h;exact absurd rfl h
  ·rw [if_neg hs]
   refine ⟨rfl,rfl,.inl ⟨rfl,?_⟩⟩
   simp only [isSort,Bool.and_eq_true,decide_eq_true_eq] at hs
   omega
 rw [if_neg h1] at h ⊢
 by_cases h2:k=2
 ·subst h2;rw [if_pos rfl] at h ⊢;obtain ⟨g1,g2,g3⟩:=one 2 h;exact ⟨g1,g2,.inr (.inl ⟨by decide,g3⟩)⟩
 rw [if_neg h2] at h ⊢
 by_cases h3:k=3
 ·subst h3;rw [if_pos rfl] at h ⊢;obtain ⟨g1,g2,g3⟩:=one 3 h;exact ⟨g1,g2,.inr (.inl ⟨by decide,g3⟩)⟩
 rw [if_neg h3] at h ⊢
 by_cases h4:k=4
 ·subst h4;rw [if_pos rfl] at h ⊢;obtain ⟨g1,g2,g3⟩:=two 4 h
  refine ⟨g1,g2,?_⟩
  rcases g3 with g | g | g
  ·exact .inr (.inl ⟨by decide,g⟩)
  ·exact .inr (.inr (.inl ⟨.inl rfl,g⟩))
  ·exact .inr (.inr (.inr g))
 rw [if_neg h4] at h ⊢
 by_cases h5:k=5
 ·subst h5;rw [if_pos rfl] at h ⊢;obtain ⟨g1,g2,g3⟩:=two 5 h
  refine ⟨g1,g2,?_⟩
  rcases g3 with g | g | g
  ·exact .inr (.inl ⟨by decide,g⟩)
  ·exact .inr (.inr (.inl ⟨.inr rfl,g⟩))
  ·exact absurd g.1 (by decide)
 rw [if_neg h5] at h ⊢
 by_cases h6:k=6
 ·subst h6;rw [if_pos rfl] at h ⊢;obtain ⟨g1,g2,g3⟩:=one 6 h;exact ⟨g1,g2,.inr (.inl ⟨by decide,g3⟩)⟩
 rw [if_neg h6] at h ⊢
 by_cases h7:k=7
 ·subst h7;rw [if_pos rfl] at h ⊢;obtain ⟨g1,g2,g3⟩:=one 7 h;exact ⟨g1,g2,.inr (.inl ⟨by decide,g3⟩)⟩
 rw [if_neg h7] at h ⊢
 by_cases h8:k=8
 ·subst h8
  rw [if_pos rfl] at h ⊢
  unfold iG at h ⊢
  cases hn:aR S a with
  | none=> exact ⟨rfl,rfl,.inr (.inl ⟨by decide,rfl⟩)⟩
  | some n=> rw [hn] at h;exact absurd rfl h
 rw [if_neg h8] at h
 by_cases h9:k=9
 ·rw [if_pos h9] at h;exact absurd rfl h
 ·rw [if_neg h9] at h;exact absurd rfl h
theorem zG (d:nI):(rF S d a b).2.2.l.length≤S.l.length+2:=by
 have one:∀k:Int,(bE k S a).2.2.l.length≤S.l.length+2:=by
  intro k
  unfold bE
  cases aR S a with
  | none=> simp
  | some n=> have:=(kY S (k,(n:Int),0)).1;simp only;omega
 have two:∀k:Int,(dh k S a b).2.2.l.length≤S.l.length+2:=by
  intro k
  unfold dh
  cases aR S a with
  | none=> simp
  | some n=>
   cases aR S b with
   | none=> simp
   | some m=>
    simp only
    split
    ·simp
    ·have:=(kY S (k,(n:Int),(m:Int))).1;simp only;omega
 unfold rF
 split
 ·unfold eU TS.draw
  split
  ·simp only;split<;> simp [lD]
  ·simp
 split
 ·exact one 2
 split
 ·exact one 3
 split
 ·exact two 4
 split
 ·exact two 5
 split
 ·exact one 6
 split
 ·exact one 7
 split
 ·unfold iG
  cases aR S a with
  | none=> simp
  | some n=> have h1:=(kY (S.text d.2.2.2) (8,(n:Int),dY S d.2.2.2)).1;have h2:=(gL S d.2.2.2).1;simp only;omega
 split
 ·have h2:=(gL S d.2.2.2).1;unfold kJ;simp only;omega
 ·have h1:=(kY (S.text d.2.2.2) (10,dY S d.2.2.2,0)).1;have h2:=(gL S d.2.2.2).1;unfold eX;simp only;omega
end
end Go.Proofs.YtpcjekgfnfjbpaaGreat
namespace Go.Proofs.YtpcjekgfnfjbpaaGreat
open Go.RowKit Go.aG Go.ChangeShapes Go.Maps
attribute [local go_sem ↓] Go.wp_at_zero Go.wp_at_succ
structure vP (N:Nat) (w0:World) (p:Nat) (w:World) (vl:Value) (S:TS) (F:Nat→Prop) (T:List (List Int)) (tv:Nat→Value):Prop where
 su:fA N w p F S
 vs:yB F w vl T tv
 nl:∀b,vl.ownBlock=some b→¬ F b∧N≤b
 be:Below N w0 w
section
variable {N : Nat} {w w' w0 w1 w2 w3 : World} {p q : Nat} {F F' G G' : Nat → Prop} {S S' : TS} {s : Value} {v u v' vl jW : Value} {l l' a b t : List Int} {T : List (List Int)} {tv : Nat → Value} {r : TA}
theorem vP.hB (h:vP N w0 p w vl S F T tv):N≤w.heap.size:=Nat.le_trans (fA.Hr h.su).2 (Nat.le_of_lt (fA.Hr h.su).1)
theorem vP.below (h:vP N w0 p w vl S F T tv) (hb:Below w.heap.size w w'):vP N w0 p w' vl S F T tv:=⟨h.su.below hb,h.vs.below hb,h.nl,h.be.trans (hb.mono h.hB)⟩
theorem vP.step (h:vP N w0 p w vl S F T tv) (hr:fu N w p F u r w'):∃F',vP N w0 p w' vl r.2.2 F' T tv∧bM F' w' u r.1∧(∀v l,bM F w v l→bM F' w' v l):=by
 obtain ⟨F',h1,h2,h3,h4⟩:=hr
 refine ⟨F',⟨h1,⟨h.vs.os.jf h3 fun b hb hf=> (h.nl b hb).1 hf,fun j t ht=> (h.vs.bs j t ht).keep h3 (fun b hb=> hb) h4⟩,fun b hb=> ⟨fun hf=> (h4 b hf).elim (h.nl b hb).1 fun h'=> by have:=h.vs.os.m.lt b hb;omega,(h.nl b hb).2⟩,h.be.trans (h3.below h.hB fun b hb=> h.su.hi hb)⟩,h2,fun v l hv=> hv.keep h3 (fun b hb=> hb) h4⟩
theorem vP.app (h:vP N w0 p w vl S F T tv) (hu:bM F w u t) (ho:mJ 23 1 w' jW (T.length+1) (jd T.length (fun j _=> tv j) (fun _ _=> u)))
  (hc:aY (fun b=> vl.ownBlock=some b) w w') (hp:∀b,jW.ownBlock=some b→vl.ownBlock=some b∨w.heap.size≤b):vP N w0 p w' jW S F (T++ [t]) (fun j=> if j=T.length then u else tv j):=by
 have hk:∀{v:Value} {l:List Int},bM F w v l→bM F w' v l:=fun g=> ⟨g.ok,g.rd.zJ hc fun hn b hb hg=> (h.vs.os.z b hg).ne g.rd hn b hb rfl,g.off⟩
 refine ⟨h.su.keep hc fun b hb e=> (h.nl b e).1 hb,⟨?_,fun j s hs=> ?_⟩,fun b hb=> ?_,h.be.trans (hc.below h.hB fun b hb=> (h.nl b hb).2)⟩
 ·rw [List.length_append,List.length_singleton]
  refine ho.congr fun j hj i hi=> ?_
  by_cases hjl:j<T.length
  ·rw [lC hjl,if_neg (by omega)]
  ·obtain rfl:j=T.length:=by omega
   rw [pz,if_pos rfl]
 ·by_cases hj:j<T.length
  ·rw [List.getElem?_append_left hj] at hs
   rw [if_neg (by omega)];exact hk (h.vs.bs j s hs)
  ·have:=(List.getElem?_eq_some_iff.1 hs).1
   rw [List.length_append,List.length_singleton] at this
   obtain rfl:j=T.length:=by omega
   rw [List.getElem?_append_right (Nat.le_refl _),Nat.sub_self] at hs
   rw [if_pos rfl,←Option.some.inj hs];exact hk hu
 ·rcases hp b hb with h' | h'
  ·exact h.nl b h'
  ·exact ⟨fun hf=> by have:=h.su.lt hf;omega,Nat.le_trans h.hB h'⟩
theorem _root_.Go.aG.vQ.below {L:List nI} (h:vQ w v L) (hb:Below w.heap.size w w'):vQ w' v L:=by
 obtain ⟨q,hq,hd⟩:=h
 exact ⟨q,hq.below hb,fun j d h=> (hd j d h).below hb⟩
theorem lI (w:World) (v:Value) (L:List nI) (h:vQ w v L) (hok:∀(j:Nat) (d:nI),L[j]? =some d→AB d):Calls Tryz.prog 8 #[v] w fun e w'=> e=.returned (.bool true)∧Below w.heap.size w w':=by
 have HS:=Lib.hid h
 have nK:=Lib.hid hok
 obtain ⟨q,hq,hd⟩:=h
 obtain ⟨m,hm⟩:∃m,m=L.length:=⟨_,rfl⟩
 rw [←hm] at hq
 obtain ⟨av,cap,rfl,hcap,hcap2,hcell⟩:=hq
 have HD:=Lib.hid hd
 have HC:=Lib.hid hcell
 have HM:=Lib.hid hm
 clear hd hcell hm hok
 go_enter Tryz.func8,Tryz.ntmps8
 go_wp2_with fail
 refine (zM w).mono ?_
 rintro e w1 ⟨rfl,b1⟩
 have B1:=Lib.hid b1
 clear b1
 go_wp2_with fail
 refine (DI _ L w1 (HS.out.below B1.out)).mono ?_
 rintro e w2 ⟨r,rfl,hr,b2⟩
 have B2:=Lib.hid (B1.out.trans (b2.mono B1.out.size))
 clear b2
 cases r with
 | false=>
  go_wp2
  go_ret
  exact ⟨rfl,B2.out⟩
 | true=>
  have HF:=Lib.hid (hr rfl)
  clear hr
  go_wp2_with fail
  refine (jZ w2).mono ?_
  rintro e w3 ⟨p,F,rfl,h3,b3⟩
  have B3:=Lib.hid (B2.out.trans (b3.mono B2.out.size))
  have H3:Hid (vP w.heap.size w p w3 (.slice none 0 0) ⟨[], []⟩ F [] (fun _=> undef)):=Lib.hid ⟨fA.base h3 B2.out.size,⟨mJ.nil _ _ _ _,fun j t h=> by simp at h⟩,(fun b hb=> by cases hb),B3.out⟩
  clear h3 b3
  go_wp2
  go_loopw [4,37] (fun vl i wr=> ∃k:Nat,k≤m∧i=.int .i64 (k:Int)∧∃S F T tv,vP w.heap.size w p wr vl S F T tv∧S.l.length≤2 * k∧T.length≤k) (fun _ i _=> m - (intOf i).toNat)
  case atStart=> exact ⟨0,Nat.zero_le _,rfl,_,F, [],_,H3.out,Nat.le_refl _,Nat.le_refl _⟩
  case round=>
   obtain ⟨k,hk,rfl,S,F,T,tv,hI,hsl,htl⟩:=hrel
   have HI:=Lib.hid hI
   have HSL:=Lib.hid hsl
   have fM:=Lib.hid htl
   have jD:Hid (m≤20):=Lib.hid (HM.out▸HF.out.1)
   obtain ⟨al,cl,KC,_⟩:=hI.vs.os.m.slice
   subst KC
   clear hI hsl htl
   by_cases hlt:k<m
   case neg=>
    obtain rfl:k=m:=by omega
    clear hlt
    go_wp2_with fail
    refine (rT HI.out.su).mono ?_
    rintro e w9 ⟨rfl,rfl⟩
    go_wp2
    go_ret
    exact ⟨rfl,HI.out.be⟩
   obtain ⟨bb,o,rfl,hbl,hcc⟩:=HC.out (by omega)
   have EZ:Hid (∀i,i<4→wr.cell? ⟨bb,o+k * 4+i,none⟩=some (q k i)):=fun i hi=> (HI.out.be.cell (p:=⟨bb,o+k * 4+i,none⟩) hbl).trans (hcc k hlt i hi)
   obtain ⟨d,hd⟩:∃d,L[k]? =some d:=⟨_,List.getElem?_eq_getElem (by rw [←HM.out];exact hlt)⟩
   have uF:=Lib.hid (HD.out k d hd)
   have GH:Hid (∀i,i<4→(q k i).oneCell'=true):=Lib.hid uF.out.one
   have HDK:=Lib.hid hd
   have LB:=Lib.hid (HF.out.2 k d hd)
   have JI:=Lib.hid (nK.out k d hd)
   have bP:=Lib.hid hlt
   clear hcc hd
   go_upto_region 10 with (first | (refine fE rfl rfl rfl Tryz.underlying90 rfl Tryz.sizeD16 EZ.out ?_) | (refine fU rfl 90 _ _ rfl wr.heap.size 4 (q k) _ 90 (heap_alloc_new _ _) rfl Tryz.sizeD16 rfl rfl GH.out ?_))
   refine aF (fun w4=> nJ w4 wr.heap.size 4 90 (q k)∧Below wr.heap.size wr w4) ⟨nJ.setRow (heap_alloc_new _ _),aD ((Below.refl _ _).alloc (Nat.le_refl _) _) (Nat.le_refl _) _⟩ ?_
   rintro w4 ⟨hr4,hb4⟩
   have c0:=hr4.2 0 (by decide)
   have c1:=hr4.2 1 (by decide)
   have c2:=hr4.2 2 (by decide)
   have c3:=hr4.2 3 (by decide)
   rw [uF.out.z0] at c0
   rw [uF.out.z1] at c1
   rw [uF.out.z2] at c2
   have HR4:=Lib.hid hr4
   have I4:=Lib.hid (HI.out.below hb4)
   have Cn:Hid (wr.heap.size<w4.heap.size):=Lib.hid (World.block_lt_of_cell? _ _ c0)
   have vS:=Lib.hid c1
   have zQ:=Lib.hid c2
   have BO:Hid (∀w',Below w4.heap.size w4 w'→∀n:Int,Calls Tryz.prog 58 #[.slice al T.length cl,.int .i64 n] w' fun e w2=> ∃u,e=.returned u∧bM F w2 u (dO T n)∧Below w'.heap.size w' w2):=Lib.hid fun w' hb n=> Ay (I4.out.vs.below hb) (fun b hf=> Nat.lt_of_lt_of_le (I4.out.su.lt hf) hb.size) n
   have En:Hid (¬ F wr.heap.size):=Lib.hid fun hf=> Nat.lt_irrefl _ (HI.out.su.lt hf)
   obtain ⟨xd,hxd⟩:∃x,x=wr.heap.size:=⟨_,rfl⟩
   rw [←hxd] at En vS zQ Cn c0 c1 c2 c3 HR4 ⊢
   clear hr4 hb4 c0 c1 c2 c3 hxd
   refine aP (n:=286) (by kernel_rfl) (by kernel_rfl) (by kernel_rfl) rfl
    (fun ii vv ww=> (match ii with | 0 | 4=> vv=.slice al T.length cl | 1=> vv=.pointer (some ⟨xd,1,none⟩) | 2=> vv=.int .i64 (d.2.1) | 5=> vv=.pointer (some ⟨xd,2,none⟩) | 6=> vv=.int .i64 (d.2.2.1) | _=> True)∧(ii=3→bM F ww vv (dO T (d.2.1)))∧(ii=7→bM F ww vv (dO T (d.2.2.1)))∧(ii=8→bM F ww vv (dO T (d.2.1)))∧(ii=9→bM F ww vv (dO T (d.2.2.1))))
    (fun w w'=> Below w.heap.size w w') (fun _ _ h=> h) (fun i v w w' h hE=> ⟨h.1,fun e=> bM.below (h.2.1 e) hE,fun e=> bM.below (h.2.2.1 e) hE,fun e=> bM.below (h.2.2.2.1 e) hE,fun e=> bM.below (h.2.2.2.2 e) hE⟩) ?_ ?_
   ·refine Each.all ?_
    refine ⟨?_,?_,?_,?_,?_,?_,?_,?_,?_,?_,trivial⟩
    ·intro a w2 hB hF hd
     rw [if_pos (ah rfl)]
     exact aA _ (.inl rfl) (by simp) ⟨(hF.same 4 rfl),fun h=> absurd h (by decide),fun h=> absurd h (by decide),fun h=> absurd h (by decide),fun h=> absurd h (by decide)⟩
    ·intro a w2 hB hF hd
     rw [if_pos (ah rfl)]
     refine ak (fun h=> by cases h) (dQ (m:=0) (k:=1) rfl (hF.same 6 rfl) (by kernel_rfl)) ?_
     exact ⟨rfl,fun h=> absurd h (by decide),fun h=> absurd h (by decide),fun h=> absurd h (by decide),fun h=> absurd h (by decide)⟩
    ·intro a w2 hB hF hd
     rw [if_pos (ah rfl)]
     exact ak (fun h=> by cases h) (aC rfl ((hd 1 _ rfl (aj rfl)).1) Tryz.underlying3 ((hB.cell (p:=⟨xd,1,none⟩) Cn.out).trans vS.out)) ⟨rfl,fun h=> absurd h (by decide),fun h=> absurd h (by decide),fun h=> absurd h (by decide),fun h=> absurd h (by decide)⟩
    ·intro a w2 hB hF hd
     rw [if_pos (ah rfl)]
     refine aL _ _ _ rfl Tryz.call58 _ (args2 ((hd 0 _ rfl (aj rfl)).1) ((hd 2 _ rfl (aj rfl)).1)) (by simp) ((BO.out w2 hB _).mono ?_)
     rintro e w3 ⟨u,rfl,hr,hb⟩;exact ⟨u,rfl,⟨trivial,fun _=> hr,fun h=> absurd h (by decide),fun h=> absurd h (by decide),fun h=> absurd h (by decide)⟩,hb⟩
    ·intro a w2 hB hF hd
     rw [if_pos (ah rfl)]
     exact aA _ (.inl rfl) (by simp) ⟨(hF.same 4 rfl),fun h=> absurd h (by decide),fun h=> absurd h (by decide),fun h=> absurd h (by decide),fun h=> absurd h (by decide)⟩
    ·intro a w2 hB hF hd
     rw [if_pos (ah rfl)]
     refine ak (fun h=> by cases h) (dQ (m:=0) (k:=2) rfl (hF.same 6 rfl) (by kernel_rfl)) ?_
     exact ⟨rfl,fun h=> absurd h (by decide),fun h=> absurd h (by decide),fun h=> absurd h (by decide),fun h=> absurd h (by decide)⟩
    ·intro a w2 hB hF hd
     rw [if_pos (ah rfl)]
     exact ak (fun h=> by cases h) (aC rfl ((hd 5 _ rfl (aj rfl)).1) Tryz.underlying3 ((hB.cell (p:=⟨xd,2,none⟩) Cn.out).trans zQ.out)) ⟨rfl,fun h=> absurd h (by decide),fun h=> absurd h (by decide),fun h=> absurd h (by decide),fun h=> absurd h (by decide)⟩
    ·intro a w2 hB hF hd
     rw [if_pos (ah rfl)]
     refine aL _ _ _ rfl Tryz.call58 _ (args2 ((hd 4 _ rfl (aj rfl)).1) ((hd 6 _ rfl (aj rfl)).1)) (by simp) ((BO.out w2 hB _).mono ?_)
     rintro e w3 ⟨u,rfl,hr,hb⟩;exact ⟨u,rfl,⟨trivial,fun h=> absurd h (by decide),fun _=> hr,fun h=> absurd h (by decide),fun h=> absurd h (by decide)⟩,hb⟩
    ·intro a w2 hB hF hd
     rw [if_pos (ah rfl)]
     exact aA _ (.inr rfl) (by simp) ⟨trivial,fun h=> absurd h (by decide),fun h=> absurd h (by decide),fun _=> ((hd 3 _ rfl (aj rfl)).2.1 rfl),fun h=> absurd h (by decide)⟩
    ·intro a w2 hB hF hd
     rw [if_pos (ah rfl)]
     exact aA _ (.inr rfl) (by simp) ⟨trivial,fun h=> absurd h (by decide),fun h=> absurd h (by decide),fun h=> absurd h (by decide),fun _=> ((hd 7 _ rfl (aj rfl)).2.2.1 rfl)⟩
   ·intro a w5 hB hF hS
    obtain ⟨GZ,Bc⟩:∃x,x=a.tmps.getD 44 undef:=⟨_,rfl⟩
    have KM:bM F w5 GZ (dO T (d.2.1)):=by rw [Bc];exact (hS 3 _ rfl).2.1 rfl
    obtain ⟨GY,Bb⟩:∃x,x=a.tmps.getD 48 undef:=⟨_,rfl⟩
    have KL:bM F w5 GY (dO T (d.2.2.1)):=by rw [Bb];exact (hS 7 _ rfl).2.2.1 rfl
    obtain ⟨x7,hx7⟩:∃x,x=a.tmps.getD 7 undef:=⟨_,rfl⟩
    have P7:bM F w5 x7 (dO T (d.2.1)):=by rw [hx7];exact (hS 8 _ rfl).2.2.2.1 rfl
    obtain ⟨x8,Fy⟩:∃x,x=a.tmps.getD 8 undef:=⟨_,rfl⟩
    have P8:bM F w5 x8 (dO T (d.2.2.1)):=by rw [Fy];exact (hS 9 _ rfl).2.2.2.2 rfl
    have ha:=aH rfl rfl hF [_,_,_,GZ,_,_,_,GY,x7,x8] rfl ⟨(hS 0 _ rfl).1,(hS 1 _ rfl).1,(hS 2 _ rfl).1,Bc.symm,(hS 4 _ rfl).1,(hS 5 _ rfl).1,(hS 6 _ rfl).1,Bb.symm,hx7.symm,Fy.symm,trivial⟩
    simp only [puts,Act.put,List.setIfInBounds_toArray,List.set_cons_succ,List.set_cons_zero] at ha
    subst ha
    clear Bc Bb hx7 Fy
    clear hS hF
    have I5:=Lib.hid (I4.out.below hB)
    have R5:Hid (∀i,i<4→w5.cell? ⟨xd,i,none⟩=some (q k i)):=Lib.hid fun i hi=> (hB.cell (p:=⟨xd,i,none⟩) Cn.out).trans (HR4.out.2 i hi)
    have Ji:Hid (xd<w5.heap.size):=Lib.hid (Nat.lt_of_lt_of_le Cn.out hB.size)
    obtain ⟨a,ha⟩:∃a,a=dO T d.2.1:=⟨_,rfl⟩
    obtain ⟨b,hb⟩:∃b,b=dO T d.2.2.1:=⟨_,rfl⟩
    rw [←ha] at P7
    rw [←hb] at P8
    have A5:=Lib.hid P7
    have Y5:=Lib.hid P8
    obtain ⟨a7,c7,e7,_⟩:=P7.rd
    subst e7
    obtain ⟨a8,c8,e8,_⟩:=P8.rd
    subst e8
    have X5:Hid (bM F w5 (q k 3) d.2.2.2):=Lib.hid ⟨JI.out.2.2.2,uF.out.z3.below I5.out.be,fun hn c hc hf=> by have:=uF.out.z3.uz hn hc;have:=I5.out.su.hi hf;omega⟩
    clear hB P7 P8 KM KL ha hb Cn vS zQ BO HR4 I4
    go_wp2_with fail
    refine (dP I5.out.su A5.out (by have:=HSL.out;have:=bP.out;have:=jD.out;omega)).mono ?_
    rintro e w6 ⟨rfl,b6⟩
    have B6:=Lib.hid b6
    clear b6
    go_wp2_with fail
    refine (dP (I5.out.su.below B6.out) (Y5.out.below B6.out) (by have:=HSL.out;have:=bP.out;have:=jD.out;omega)).mono ?_
    rintro e w7 ⟨rfl,b7⟩
    have B7:=Lib.hid (B6.out.trans (b7.mono B6.out.size))
    clear b7
    have I7:=Lib.hid (I5.out.below B7.out)
    have R7:Hid (∀i,i<4→w7.cell? ⟨xd,0+i,none⟩=some (q k i)):=Lib.hid fun i hi=> by rw [Nat.zero_add];exact (B7.out.cell (p:=⟨xd,i,none⟩) Ji.out).trans (R5.out i hi)
    obtain ⟨NA,FZ⟩:∃x,x=cB S a:=⟨_,rfl⟩
    obtain ⟨NB,FY⟩:∃x,x=cB S b:=⟨_,rfl⟩
    rw [←FZ,←FY]
    have yL:=Lib.hid FZ
    have Cq:=Lib.hid FY
    clear FZ FY
    go_wp2_with (refine fE rfl rfl rfl Tryz.underlying90 rfl Tryz.sizeD16 R7.out ?_)
    refine (xY I7.out.su d JI.out.1 (uF.out.below I7.out.be) (X5.out.below B7.out) (by have:=LB.out;omega) (A5.out.below B7.out) (Y5.out.below B7.out) (by have:=HSL.out;have:=bP.out;have:=jD.out;omega)).mono ?_
    rintro e w8 ⟨u,rfl,hr⟩
    obtain ⟨R,hR⟩:∃R,R=rF S d a b:=⟨_,rfl⟩
    rw [←hR] at hr ⊢
    have HR:=Lib.hid hR
    have GV:=Lib.hid (fun (b:Nat) (x:Value) (i:Nat) (hb:b<w7.heap.size) (hf:¬ F b) (hx:w7.cell? ⟨b,i,none⟩=some x)=> (hr.choose_spec.2.2.1.cell (p:=⟨b,i,none⟩) hb hf).trans hx)
    obtain ⟨F8,EN,EH,EJ⟩:=I7.out.step hr
    have Lg:Hid (¬ F xd):=Lib.hid fun hf=> by
     have:=I5.out.su.lt hf
     exact En.out hf
    obtain ⟨v8,S8,E8,eR⟩:∃v8 S8 E8,R=(v8,E8,S8):=⟨_,_,_,rfl⟩
    rw [eR] at EN EH ⊢
    simp only at EN EH ⊢
    have Eu:=Lib.hid eR
    have I8:=Lib.hid EN
    have U8:=Lib.hid EH
    have tq:Hid (S8.l.length≤2 * k+2):=Lib.hid (by have:=zG (S:=S) (a:=a) (b:=b) d;rw [←hR,eR] at this;have h1:S8.l.length≤S.l.length+2:=this;have:=HSL.out;omega)
    have A8:=Lib.hid (EJ _ _ (A5.out.below B7.out))
    have Y8:=Lib.hid (EJ _ _ (Y5.out.below B7.out))
    have X8:=Lib.hid (EJ _ _ (X5.out.below B7.out))
    have R8:Hid (∀i,i<4→w8.cell? ⟨xd,i,none⟩=some (q k i)):=Lib.hid fun i hi=> GV.out xd _ i (Nat.lt_of_lt_of_le Ji.out B7.out.size) Lg.out (by have:=R7.out i hi;rwa [Nat.zero_add] at this)
    have Jh:Hid (xd<w8.heap.size):=Lib.hid (World.block_lt_of_cell? _ _ (R8.out 0 (by decide)))
    clear hr hR EN EH EJ eR
    obtain ⟨a9,c9,e9,_⟩:=U8.out.rd
    subst e9
    go_wp2_with fail
    refine (dP I8.out.su U8.out (by have:=tq.out;have:=bP.out;have:=jD.out;omega)).mono ?_
    rintro e w9 ⟨rfl,b9⟩
    have I9:=Lib.hid (I8.out.below b9)
    have R9:Hid (∀i,i<4→w9.cell? ⟨xd,i,none⟩=some (q k i)):=Lib.hid fun i hi=> (b9.cell (p:=⟨xd,i,none⟩) Jh.out).trans (R8.out i hi)
    have Ea:Hid (xd<w9.heap.size):=Lib.hid (Nat.lt_of_lt_of_le Jh.out b9.size)
    have U9:=Lib.hid (U8.out.below b9)
    have X9:=Lib.hid (X8.out.below b9)
    clear b9
    obtain ⟨NV,FX⟩:∃x,x=cB S8 v8:=⟨_,rfl⟩
    rw [←FX]
    have EX:=Lib.hid FX
    obtain ⟨kd,hkd⟩:∃x,x=d.1:=⟨_,rfl⟩
    obtain ⟨dA,Im⟩:∃x,x=d.2.1:=⟨_,rfl⟩
    have jV:=Lib.hid hkd
    have EY:=Lib.hid Im
    clear FX hkd Im
    by_cases he:E8=0
    case neg=>
     have BU:=Lib.hid (zH (S:=S) (a:=a) (b:=b) d (by rw [←HR.out,Eu.out];exact he))
     have q1:(E8 !=0)=true:=by simpa using he
     obtain ⟨qs,G9,Dc,Gb⟩:=id I9.out.su
     have BN:=Lib.hid Dc
     clear he Dc Gb
     go_wp2_with fail
     refine (iM BN.out).mono ?_
     rintro e BZ ⟨rfl,rfl⟩
     go_wp2_with fail
     refine (lG BN.out.st NA.1).mono ?_
     rintro e uH ⟨rfl,b11⟩
     obtain ⟨z,hz⟩:∃z,z=(nG S8 NA.1).1:=⟨_,rfl⟩
     obtain ⟨zb,hzb⟩:∃z,z=(nG S8 NA.1).2:=⟨_,rfl⟩
     rw [←hz,←hzb]
     have HZ:=Lib.hid hz
     clear hz hzb q1
     go_upto_region 17 with (fail)
     have Gd:=R9.out 0 (by decide)
     have Gf:=R9.out 1 (by decide)
     rw [uF.out.z0,←jV.out] at Gd
     rw [uF.out.z1,←EY.out] at Gf
     refine aF (fun pJ=> pJ.cell? ⟨uH.heap.size,0,none⟩=some (.int .i64 z.1)∧pJ.cell? ⟨xd,0,none⟩=some (.int .i64 kd)∧pJ.cell? ⟨xd,1,none⟩=some (.int .i64 dA)∧Below BZ.heap.size BZ pJ) ⟨cell_of_row _ _ 0 _ _ (0,0) (heap_alloc_new uH _),?_,?_,b11.alloc b11.size _⟩ ?_
     ·exact ((b11.alloc b11.size _).cell (p:=⟨xd,0,none⟩) Ea.out).trans Gd
     ·exact ((b11.alloc b11.size _).cell (p:=⟨xd,1,none⟩) Ea.out).trans Gf
     rintro pJ ⟨cz,ck,ca,b12⟩
     have DY:=Lib.hid (I9.out.below b12)
     obtain ⟨xt,hxt⟩:∃x,x=uH.heap.size:=⟨_,rfl⟩
     rw [←hxt] at cz ⊢
     clear b11 b12 hxt Gd Gf
     have Bh:v8= [] :=by have:=BU.out.1;rw [←HR.out,Eu.out] at this;exact this
     have Kv:S8=S:=by have:=BU.out.2.1;rw [←HR.out,Eu.out] at this;exact this
     subst Bh
     subst Kv
     rw [List.length_nil]
     rcases BU.out.2.2 with ⟨h1,h2⟩ | ⟨⟨h1,h2⟩,h3⟩ | ⟨h1,⟨n,h2⟩,h3⟩ | ⟨h1,⟨n,h2,h3⟩,m',h4⟩
     ·as_aux_lemma=>
       obtain rfl:kd=1:=jV.out.trans h1
       rw [←EY.out] at h2
       clear h1
       by_cases h3:dA<1
       ·have q2:decide (dA<1)=true:=decide_eq_true h3
        clear h2 h3
        go_wp2
        go_roundw
        case rel=> exact ⟨k+1,bP.out,by go_num,S8,F8,T,tv,DY.out,by have:=HSL.out;omega,by have:=fM.out;omega⟩
        case measure=> have:=bP.out;simp [intOf] <;> omega
       ·have q2:decide (dA<1)=false:=decide_eq_false h3
        have q3:decide (4<dA)=true:=decide_eq_true (by omega)
        clear h2 h3
        go_wp2
        go_roundw
        case rel=> exact ⟨k+1,bP.out,by go_num,S8,F8,T,tv,DY.out,by have:=HSL.out;omega,by have:=fM.out;omega⟩
        case measure=> have:=bP.out;simp [intOf] <;> omega
     ·as_aux_lemma=>
       rw [←jV.out] at h1 h2
       obtain rfl:NA=(0,false):=yL.out.trans (by unfold cB;rw [h3])
       have q2:(kd==1)=false:=by simp;omega
       have q3:decide (2≤kd)=true:=decide_eq_true h1
       have q4:decide (kd≤8)=true:=decide_eq_true h2
       clear h1 h2 h3
       go_wp2
       go_roundw
       case rel=> exact ⟨k+1,bP.out,by go_num,S8,F8,T,tv,DY.out,by have:=HSL.out;omega,by have:=fM.out;omega⟩
       case measure=> have:=bP.out;simp [intOf] <;> omega
     ·as_aux_lemma=>
       obtain rfl:NA=((n:Int),true):=yL.out.trans (by unfold cB;rw [h2])
       obtain rfl:NB=(0,false):=Cq.out.trans (by unfold cB;rw [h3])
       rw [←jV.out] at h1
       clear h2 h3 ca
       rcases h1 with rfl | rfl
       all_goals
        go_wp2
        go_roundw
        case rel=> exact ⟨k+1,bP.out,by go_num,S8,F8,T,tv,DY.out,by have:=HSL.out;omega,by have:=fM.out;omega⟩
        case measure=> have:=bP.out;simp [intOf] <;> omega
     ·as_aux_lemma=>
       obtain rfl:NA=((n:Int),true):=yL.out.trans (by unfold cB;rw [h2])
       obtain rfl:NB=((m':Int),true):=Cq.out.trans (by unfold cB;rw [h4])
       obtain rfl:kd=4:=jV.out.trans h1
       have q2:(z.1 !=2)=true:=by
        have:z.1=uj S8 n:=by rw [HZ.out,qU A5.out.ok h2];rfl
        rw [this];simpa using h3
       clear h1 h2 h3 h4 ca
       go_wp2
       go_roundw
       case rel=> exact ⟨k+1,bP.out,by go_num,S8,F8,T,tv,DY.out,by have:=HSL.out;omega,by have:=fM.out;omega⟩
       case measure=> have:=bP.out;simp [intOf] <;> omega
    ·obtain rfl:E8=0:=he
     have vV:=Lib.hid I7.out.su.ok
     obtain ⟨mt,t,hmt,FB,hrg⟩:=BH (S:=S) vV.out (by obtain ⟨_,_,hh,_⟩:=I7.out.su;exact hh.few) (by have:=HSL.out;have:=bP.out;have:=jD.out;omega) d A5.out.ok Y5.out.ok (by rw [←HR.out,Eu.out])
     rw [←HR.out,Eu.out] at hmt FB hrg
     have Bg:v8=bB (mt:Int):=FB
     have hmt':S8.l[mt]? =some t:=hmt
     have Li:=Lib.hid hmt'
     have yJ:Hid (Jc S S8 d a b mt t):=Lib.hid hrg
     have Me:=Lib.hid Bg
     have Lm:Hid (mt<S8.l.length):=Lib.hid (List.getElem?_eq_some_iff.1 hmt').1
     have El:Hid (aR S8 v8=some mt):=Lib.hid (by rw [Bg];exact vw Lm.out (by have:=tq.out;have:=bP.out;have:=jD.out;omega))
     obtain rfl:NV=((mt:Int),true):=EX.out.trans (by unfold cB;rw [El.out])
     obtain ⟨qs,G9,Dc,Gb⟩:=id I9.out.su
     have BN:=Lib.hid Dc
     clear hmt FB hrg Bg hmt' Dc Gb
     go_wp2_with fail
     refine (iM BN.out).mono ?_
     rintro e BZ ⟨rfl,rfl⟩
     go_wp2_with fail
     refine (lG BN.out.st (mt:Int)).mono ?_
     rw [lZ Li.out]
     rintro e uH ⟨rfl,b11⟩
     obtain ⟨t1,t2,t3⟩:=t
     go_upto_region 23 with (fail)
     refine aF (fun pJ=> pJ.cell? ⟨uH.heap.size,0,none⟩=some (.int .i64 t1)∧pJ.cell? ⟨uH.heap.size,1,none⟩=some (.int .i64 t2)∧pJ.cell? ⟨uH.heap.size,2,none⟩=some (.int .i64 t3)∧BZ.heap.size≤uH.heap.size∧Below BZ.heap.size BZ pJ) ⟨cell_of_row _ _ 0 _ _ (0,0) (heap_alloc_new uH _),cell_of_row _ _ 1 _ _ (0,0) (heap_alloc_new uH _),cell_of_row _ _ 2 _ _ (0,0) (heap_alloc_new uH _),b11.size,b11.alloc b11.size _⟩ ?_
     rintro pJ ⟨c0,c1,c2,hle,b12⟩
     have HT0:=Lib.hid c0
     have HT1:=Lib.hid c1
     have HT2:=Lib.hid c2
     have Fg:=Lib.hid b12
     have yI:Hid (uH.heap.size<pJ.heap.size):=Lib.hid (World.block_lt_of_cell? _ _ c0)
     have HST:Hid (∀w',Below pJ.heap.size pJ w'→Calls Tryz.prog 27 #[.pointer (some ⟨p,0,none⟩)] w' fun e w2=> e=.returned (.pointer (some ⟨qs,0,none⟩))∧Below w'.heap.size w' w2):=Lib.hid fun w' hb=> (iM ((BN.out.below Fg.out).below hb)).mono (by rintro e w2 ⟨rfl,rfl⟩;exact ⟨rfl,Below.refl _ _⟩)
     have Ez:Hid (∀w',Below pJ.heap.size pJ w'→∀n:Int,Calls Tryz.prog 62 #[.pointer (some ⟨qs,0,none⟩),.int .i64 n] w' fun e w2=> ∃x,e=.returned x∧(∃y,x=.tuple #[y,.bool (aM S8 n).2] ∧Rd .u8 w2 y (aM S8 n).1.length (bf (aM S8 n).1))∧Below w'.heap.size w' w2):=Lib.hid fun w' hb n=> by
      refine (lK ((BN.out.st.below Fg.out).below hb) n (by have:=tq.out;have:=bP.out;have:=jD.out;omega) (by have:=pY I9.out.su.ok;have:=tq.out;have:=bP.out;have:=jD.out;omega)).mono ?_
      rintro e w2 ⟨y,rfl,hy,b⟩
      exact ⟨_,rfl,⟨y,rfl,hy⟩,b⟩
     obtain ⟨xt,hxt⟩:∃x,x=uH.heap.size:=⟨_,rfl⟩
     rw [←hxt] at HT0 HT1 HT2 yI c0 c1 c2 ⊢
     clear b11 b12 hxt c0 c1 c2 hle
     refine aP (n:=286) (by kernel_rfl) (by kernel_rfl) (by kernel_rfl) rfl
      (fun ii vv ww=> (match ii with | 0=> vv=.pointer (some ⟨p,0,none⟩) | 1=> vv=.pointer (some ⟨qs,0,none⟩) | 2=> vv=.pointer (some ⟨xt,1,none⟩) | 3=> vv=.int .i64 (t2) | 7 | 9=> vv=.bool ((aM S8 t2).2) | _=> True)∧(ii=4→∃y,vv=.tuple #[y,.bool (aM S8 t2).2] ∧Rd .u8 ww y (aM S8 t2).1.length (bf (aM S8 t2).1))∧(ii=5→∃y,vv=.tuple #[y,.bool (aM S8 t2).2] ∧Rd .u8 ww y (aM S8 t2).1.length (bf (aM S8 t2).1))∧(ii=6→Rd .u8 ww vv (aM S8 t2).1.length (bf (aM S8 t2).1))∧(ii=8→Rd .u8 ww vv (aM S8 t2).1.length (bf (aM S8 t2).1)))
      (fun w w'=> Below w.heap.size w w') (fun _ _ h=> h) (fun i v w w' h hE=> ⟨h.1,fun e=> fP (h.2.1 e) hE,fun e=> fP (h.2.2.1 e) hE,fun e=> Rd.below (h.2.2.2.1 e) hE,fun e=> Rd.below (h.2.2.2.2 e) hE⟩) ?_ ?_
     ·refine Each.all ?_
      refine ⟨?_,?_,?_,?_,?_,?_,?_,?_,?_,?_,trivial⟩
      ·intro a w2 hB hF hd
       rw [if_pos (ah rfl)]
       exact aA _ (.inl rfl) (by simp) ⟨(hF.same 3 rfl),fun h=> absurd h (by decide),fun h=> absurd h (by decide),fun h=> absurd h (by decide),fun h=> absurd h (by decide)⟩
      ·intro a w2 hB hF hd
       rw [if_pos (ah rfl)]
       refine aL _ _ _ rfl Tryz.call27 _ (args1 ((hd 0 _ rfl (aj rfl)).1)) (by simp) ((HST.out w2 hB).mono ?_)
       rintro e w3 ⟨rfl,hb⟩;exact ⟨_,rfl,⟨rfl,fun h=> absurd h (by decide),fun h=> absurd h (by decide),fun h=> absurd h (by decide),fun h=> absurd h (by decide)⟩,hb⟩
      ·intro a w2 hB hF hd
       rw [if_pos (ah rfl)]
       refine ak (fun h=> by cases h) (dQ (m:=0) (k:=1) rfl (hF.same 20 rfl) (by kernel_rfl)) ?_
       exact ⟨rfl,fun h=> absurd h (by decide),fun h=> absurd h (by decide),fun h=> absurd h (by decide),fun h=> absurd h (by decide)⟩
      ·intro a w2 hB hF hd
       rw [if_pos (ah rfl)]
       exact ak (fun h=> by cases h) (aC rfl ((hd 2 _ rfl (aj rfl)).1) Tryz.underlying3 ((hB.cell (p:=⟨xt,1,none⟩) yI.out).trans HT1.out)) ⟨rfl,fun h=> absurd h (by decide),fun h=> absurd h (by decide),fun h=> absurd h (by decide),fun h=> absurd h (by decide)⟩
      ·intro a w2 hB hF hd
       rw [if_pos (ah rfl)]
       refine aL _ _ _ rfl Tryz.call62 _ (args2 ((hd 1 _ rfl (aj rfl)).1) ((hd 3 _ rfl (aj rfl)).1)) (by simp) ((Ez.out w2 hB _).mono ?_)
       rintro e w3 ⟨u,rfl,hr,hb⟩;exact ⟨u,rfl,⟨trivial,fun _=> hr,fun h=> absurd h (by decide),fun h=> absurd h (by decide),fun h=> absurd h (by decide)⟩,hb⟩
      ·intro a w2 hB hF hd
       rw [if_pos (ah rfl)]
       exact aA _ (.inl rfl) (by simp) ⟨trivial,fun h=> absurd h (by decide),fun _=> ((hd 4 _ rfl (aj rfl)).2.1 rfl),fun h=> absurd h (by decide),fun h=> absurd h (by decide)⟩
      ·intro a w2 hB hF hd
       rw [if_pos (ah rfl)]
       obtain ⟨u_,BG,CW⟩:=((hd 5 _ rfl (aj rfl)).2.2.1 rfl)
       exact ak (fun h=> by cases h) (eH rfl BG rfl) ⟨trivial,fun h=> absurd h (by decide),fun h=> absurd h (by decide),fun _=> (CW),fun h=> absurd h (by decide)⟩
      ·intro a w2 hB hF hd
       rw [if_pos (ah rfl)]
       obtain ⟨u_,BG,CW⟩:=((hd 5 _ rfl (aj rfl)).2.2.1 rfl)
       exact ak (fun h=> by cases h) (eH rfl BG rfl) ⟨rfl,fun h=> absurd h (by decide),fun h=> absurd h (by decide),fun h=> absurd h (by decide),fun h=> absurd h (by decide)⟩
      ·intro a w2 hB hF hd
       rw [if_pos (ah rfl)]
       exact aA _ (.inr rfl) (by simp) ⟨trivial,fun h=> absurd h (by decide),fun h=> absurd h (by decide),fun h=> absurd h (by decide),fun _=> ((hd 6 _ rfl (aj rfl)).2.2.2.1 rfl)⟩
      ·intro a w2 hB hF hd
       rw [if_pos (ah rfl)]
       exact aA _ (.inr rfl) (by simp) ⟨((hd 7 _ rfl (aj rfl)).1),fun h=> absurd h (by decide),fun h=> absurd h (by decide),fun h=> absurd h (by decide),fun h=> absurd h (by decide)⟩
     ·intro a yF hB hF hS
      obtain ⟨Cx,xI⟩:∃x,x=a.tmps.getD 156 undef:=⟨_,rfl⟩
      have KR:∃y,Cx=.tuple #[y,.bool (aM S8 t2).2] ∧Rd .u8 yF y (aM S8 t2).1.length (bf (aM S8 t2).1):=by rw [xI];exact (hS 4 _ rfl).2.1 rfl
      obtain ⟨x151,hx151⟩:∃x,x=a.tmps.getD 151 undef:=⟨_,rfl⟩
      have Gq:∃y,x151=.tuple #[y,.bool (aM S8 t2).2] ∧Rd .u8 yF y (aM S8 t2).1.length (bf (aM S8 t2).1):=by rw [hx151];exact (hS 5 _ rfl).2.2.1 rfl
      obtain ⟨x157,hx157⟩:∃x,x=a.tmps.getD 157 undef:=⟨_,rfl⟩
      have Gp:Rd .u8 yF x157 (aM S8 t2).1.length (bf (aM S8 t2).1):=by rw [hx157];exact (hS 6 _ rfl).2.2.2.1 rfl
      obtain ⟨Hf,Bf⟩:∃x,x=a.tmps.getD 22 undef:=⟨_,rfl⟩
      have Gl:Rd .u8 yF Hf (aM S8 t2).1.length (bf (aM S8 t2).1):=by rw [Bf];exact (hS 8 _ rfl).2.2.2.2 rfl
      have ha:=aH rfl rfl hF [_,_,_,_,Cx,x151,x157,_,Hf,_] rfl ⟨(hS 0 _ rfl).1,(hS 1 _ rfl).1,(hS 2 _ rfl).1,(hS 3 _ rfl).1,xI.symm,hx151.symm,hx157.symm,(hS 7 _ rfl).1,Bf.symm,(hS 9 _ rfl).1,trivial⟩
      simp only [puts,Act.put,List.setIfInBounds_toArray,List.set_cons_succ,List.set_cons_zero] at ha
      subst ha
      clear xI hx151 hx157 Bf
      clear hS hF
      have yM:=Lib.hid hB
      have Gj:=Lib.hid Gl
      have e22:=Gl
      obtain ⟨a22,Mc,e22,_⟩:=e22
      subst e22
      clear hB Gl Gq Gp
      go_upto_region 24 with (fail)
      have HST:Hid (∀w',Below yF.heap.size yF w'→Calls Tryz.prog 27 #[.pointer (some ⟨p,0,none⟩)] w' fun e w2=> e=.returned (.pointer (some ⟨qs,0,none⟩))∧Below w'.heap.size w' w2):=Lib.hid fun w' hb=> HST.out w' (yM.out.trans (hb.mono yM.out.size))
      have Ez:Hid (∀w',Below yF.heap.size yF w'→∀n:Int,Calls Tryz.prog 62 #[.pointer (some ⟨qs,0,none⟩),.int .i64 n] w' fun e w2=> ∃x,e=.returned x∧(∃y,x=.tuple #[y,.bool (aM S8 n).2] ∧Rd .u8 w2 y (aM S8 n).1.length (bf (aM S8 n).1))∧Below w'.heap.size w' w2):=Lib.hid fun w' hb=> Ez.out w' (yM.out.trans (hb.mono yM.out.size))
      have KX:Hid (yF.cell? ⟨xt,2,none⟩=some (.int .i64 t3)):=Lib.hid ((yM.out.cell (p:=⟨xt,2,none⟩) yI.out).trans HT2.out)
      have KU:Hid (xt<yF.heap.size):=Lib.hid (Nat.lt_of_lt_of_le yI.out yM.out.size)
      refine aP (n:=286) (by kernel_rfl) (by kernel_rfl) (by kernel_rfl) rfl
       (fun ii vv ww=> (match ii with | 0=> vv=.pointer (some ⟨p,0,none⟩) | 1=> vv=.pointer (some ⟨qs,0,none⟩) | 2=> vv=.pointer (some ⟨xt,2,none⟩) | 3=> vv=.int .i64 (t3) | 7 | 9=> vv=.bool ((aM S8 t3).2) | _=> True)∧(ii=4→∃y,vv=.tuple #[y,.bool (aM S8 t3).2] ∧Rd .u8 ww y (aM S8 t3).1.length (bf (aM S8 t3).1))∧(ii=5→∃y,vv=.tuple #[y,.bool (aM S8 t3).2] ∧Rd .u8 ww y (aM S8 t3).1.length (bf (aM S8 t3).1))∧(ii=6→Rd .u8 ww vv (aM S8 t3).1.length (bf (aM S8 t3).1))∧(ii=8→Rd .u8 ww vv (aM S8 t3).1.length (bf (aM S8 t3).1)))
       (fun w w'=> Below w.heap.size w w') (fun _ _ h=> h) (fun i v w w' h hE=> ⟨h.1,fun e=> fP (h.2.1 e) hE,fun e=> fP (h.2.2.1 e) hE,fun e=> Rd.below (h.2.2.2.1 e) hE,fun e=> Rd.below (h.2.2.2.2 e) hE⟩) ?_ ?_
      ·refine Each.all ?_
       refine ⟨?_,?_,?_,?_,?_,?_,?_,?_,?_,?_,trivial⟩
       ·intro a w2 hB hF hd
        rw [if_pos (ah rfl)]
        exact aA _ (.inl rfl) (by simp) ⟨(hF.same 3 rfl),fun h=> absurd h (by decide),fun h=> absurd h (by decide),fun h=> absurd h (by decide),fun h=> absurd h (by decide)⟩
       ·intro a w2 hB hF hd
        rw [if_pos (ah rfl)]
        refine aL _ _ _ rfl Tryz.call27 _ (args1 ((hd 0 _ rfl (aj rfl)).1)) (by simp) ((HST.out w2 hB).mono ?_)
        rintro e w3 ⟨rfl,hb⟩;exact ⟨_,rfl,⟨rfl,fun h=> absurd h (by decide),fun h=> absurd h (by decide),fun h=> absurd h (by decide),fun h=> absurd h (by decide)⟩,hb⟩
       ·intro a w2 hB hF hd
        rw [if_pos (ah rfl)]
        refine ak (fun h=> by cases h) (dQ (m:=0) (k:=2) rfl (hF.same 20 rfl) (by kernel_rfl)) ?_
        exact ⟨rfl,fun h=> absurd h (by decide),fun h=> absurd h (by decide),fun h=> absurd h (by decide),fun h=> absurd h (by decide)⟩
       ·intro a w2 hB hF hd
        rw [if_pos (ah rfl)]
        exact ak (fun h=> by cases h) (aC rfl ((hd 2 _ rfl (aj rfl)).1) Tryz.underlying3 ((hB.cell (p:=⟨xt,2,none⟩) KU.out).trans KX.out)) ⟨rfl,fun h=> absurd h (by decide),fun h=> absurd h (by decide),fun h=> absurd h (by decide),fun h=> absurd h (by decide)⟩
       ·intro a w2 hB hF hd
        rw [if_pos (ah rfl)]
        refine aL _ _ _ rfl Tryz.call62 _ (args2 ((hd 1 _ rfl (aj rfl)).1) ((hd 3 _ rfl (aj rfl)).1)) (by simp) ((Ez.out w2 hB _).mono ?_)
        rintro e w3 ⟨u,rfl,hr,hb⟩;exact ⟨u,rfl,⟨trivial,fun _=> hr,fun h=> absurd h (by decide),fun h=> absurd h (by decide),fun h=> absurd h (by decide)⟩,hb⟩
       ·intro a w2 hB hF hd
        rw [if_pos (ah rfl)]
        exact aA _ (.inl rfl) (by simp) ⟨trivial,fun h=> absurd h (by decide),fun _=> ((hd 4 _ rfl (aj rfl)).2.1 rfl),fun h=> absurd h (by decide),fun h=> absurd h (by decide)⟩
       ·intro a w2 hB hF hd
        rw [if_pos (ah rfl)]
        obtain ⟨u_,BG,CW⟩:=((hd 5 _ rfl (aj rfl)).2.2.1 rfl)
        exact ak (fun h=> by cases h) (eH rfl BG rfl) ⟨trivial,fun h=> absurd h (by decide),fun h=> absurd h (by decide),fun _=> (CW),fun h=> absurd h (by decide)⟩
       ·intro a w2 hB hF hd
        rw [if_pos (ah rfl)]
        obtain ⟨u_,BG,CW⟩:=((hd 5 _ rfl (aj rfl)).2.2.1 rfl)
        exact ak (fun h=> by cases h) (eH rfl BG rfl) ⟨rfl,fun h=> absurd h (by decide),fun h=> absurd h (by decide),fun h=> absurd h (by decide),fun h=> absurd h (by decide)⟩
       ·intro a w2 hB hF hd
        rw [if_pos (ah rfl)]
        exact aA _ (.inr rfl) (by simp) ⟨trivial,fun h=> absurd h (by decide),fun h=> absurd h (by decide),fun h=> absurd h (by decide),fun _=> ((hd 6 _ rfl (aj rfl)).2.2.2.1 rfl)⟩
       ·intro a w2 hB hF hd
        rw [if_pos (ah rfl)]
        exact aA _ (.inr rfl) (by simp) ⟨((hd 7 _ rfl (aj rfl)).1),fun h=> absurd h (by decide),fun h=> absurd h (by decide),fun h=> absurd h (by decide),fun h=> absurd h (by decide)⟩
      ·intro a Ak hB hF hS
       obtain ⟨Cw,xH⟩:∃x,x=a.tmps.getD 164 undef:=⟨_,rfl⟩
       have KQ:∃y,Cw=.tuple #[y,.bool (aM S8 t3).2] ∧Rd .u8 Ak y (aM S8 t3).1.length (bf (aM S8 t3).1):=by rw [xH];exact (hS 4 _ rfl).2.1 rfl
       obtain ⟨x159,hx159⟩:∃x,x=a.tmps.getD 159 undef:=⟨_,rfl⟩
       have Gn:∃y,x159=.tuple #[y,.bool (aM S8 t3).2] ∧Rd .u8 Ak y (aM S8 t3).1.length (bf (aM S8 t3).1):=by rw [hx159];exact (hS 5 _ rfl).2.2.1 rfl
       obtain ⟨Cv,xG⟩:∃x,x=a.tmps.getD 165 undef:=⟨_,rfl⟩
       have Gm:Rd .u8 Ak Cv (aM S8 t3).1.length (bf (aM S8 t3).1):=by rw [xG];exact (hS 6 _ rfl).2.2.2.1 rfl
       obtain ⟨x24,hx24⟩:∃x,x=a.tmps.getD 24 undef:=⟨_,rfl⟩
       have Gi:Rd .u8 Ak x24 (aM S8 t3).1.length (bf (aM S8 t3).1):=by rw [hx24];exact (hS 8 _ rfl).2.2.2.2 rfl
       have ha:=aH rfl rfl hF [_,_,_,_,Cw,x159,Cv,_,x24,_] rfl ⟨(hS 0 _ rfl).1,(hS 1 _ rfl).1,(hS 2 _ rfl).1,(hS 3 _ rfl).1,xH.symm,hx159.symm,xG.symm,(hS 7 _ rfl).1,hx24.symm,(hS 9 _ rfl).1,trivial⟩
       simp only [puts,Act.put,List.setIfInBounds_toArray,List.set_cons_succ,List.set_cons_zero] at ha
       subst ha
       clear xH hx159 xG hx24
       clear hS hF
       have Ct:=Lib.hid (Fg.out.trans ((yM.out.trans (hB.mono yM.out.size)).mono Fg.out.size))
       have Eh:=Lib.hid (Gj.out.below hB)
       have Ef:=Lib.hid Gi
       have e24:=Gi
       obtain ⟨a24,c24,e24,_⟩:=e24
       subst e24
       have pQ:=Lib.hid (I9.out.below Ct.out)
       have yC:=Lib.hid (U9.out.below Ct.out)
       have DU:=Lib.hid (X9.out.below Ct.out)
       have hB':Below pJ.heap.size pJ Ak:=yM.out.trans (hB.mono yM.out.size)
       have c0:=(hB'.cell (p:=⟨xt,0,none⟩) yI.out).trans HT0.out
       have c1:=(hB'.cell (p:=⟨xt,1,none⟩) yI.out).trans HT1.out
       have c2:=(hB'.cell (p:=⟨xt,2,none⟩) yI.out).trans HT2.out
       have ck:=(Ct.out.cell (p:=⟨xd,0,none⟩) Ea.out).trans (R9.out 0 (by decide))
       have ca:=(Ct.out.cell (p:=⟨xd,1,none⟩) Ea.out).trans (R9.out 1 (by decide))
       have cx:=(Ct.out.cell (p:=⟨xd,3,none⟩) Ea.out).trans (R9.out 3 (by decide))
       rw [uF.out.z0,←jV.out] at ck
       rw [uF.out.z1,←EY.out] at ca
       obtain ⟨ax,KG,ex,_⟩:=DU.out.rd
       rw [ex] at cx DU
       clear hB hB' Gi Gn Gm ex HST Ez
       by_cases h1:kd=1
       ·as_aux_lemma=>
         obtain rfl:=h1
         obtain ⟨g1,g2⟩:=yJ.out.k1 jV.out.symm
         have g1:t1=1:=g1
         have g2:t2=dA:=g2.trans EY.out.symm
         subst g1
         subst g2
         clear c2 cx
         go_wp2_with (at_builtin;refine aK (y:=fun _=> .slice a9 v8.length c9) rfl _ _ rfl rfl (by rfl) pQ.out.vs.os (by decide) Tryz.underlying55 Tryz.infoBs rfl rfl (fun i hi=> ⟨rfl,fun x e=> by cases e⟩) (fun z hz=> by simp [Value.cells] at hz;subst hz;exact fun x e=> by cases e) (by have:=fM.out;have:=bP.out;have:=jD.out;unfold maxLen;omega) (by have:=fM.out;have:=bP.out;have:=jD.out;omega) ?_;intro v6 w6 iD hc6 iJ;have HA:=Lib.hid (pQ.out.app yC.out iD hc6 iJ);clear iD hc6 iJ)
         go_roundw
         case rel=> exact ⟨k+1,bP.out,by go_num,S8,F8,T++ [v8],_,HA.out,by have:=tq.out;omega,by rw [List.length_append,List.length_singleton];have:=fM.out;omega⟩
         case measure=> have:=bP.out;simp [intOf] <;> omega
       by_cases h2:kd=2
       ·as_aux_lemma=>
         obtain rfl:=h2
         clear h1
         obtain ⟨n,g0,g1,g2⟩:=yJ.out.k2 (by rw [←jV.out];decide)
         have g1:t1=2:=g1.trans jV.out.symm
         have g2:t2=(n:Int):=g2
         obtain rfl:NA=((n:Int),true):=yL.out.trans (by unfold cB;rw [g0])
         subst g1
         subst g2
         clear c2 cx ca g0
         go_wp2_with (at_builtin;refine aK (y:=fun _=> .slice a9 v8.length c9) rfl _ _ rfl rfl (by rfl) pQ.out.vs.os (by decide) Tryz.underlying55 Tryz.infoBs rfl rfl (fun i hi=> ⟨rfl,fun x e=> by cases e⟩) (fun z hz=> by simp [Value.cells] at hz;subst hz;exact fun x e=> by cases e) (by have:=fM.out;have:=bP.out;have:=jD.out;unfold maxLen;omega) (by have:=fM.out;have:=bP.out;have:=jD.out;omega) ?_;intro v6 w6 iD hc6 iJ;have HA:=Lib.hid (pQ.out.app yC.out iD hc6 iJ);clear iD hc6 iJ)
         go_roundw
         case rel=> exact ⟨k+1,bP.out,by go_num,S8,F8,T++ [v8],_,HA.out,by have:=tq.out;omega,by rw [List.length_append,List.length_singleton];have:=fM.out;omega⟩
         case measure=> have:=bP.out;simp [intOf] <;> omega
       by_cases h3:kd=3
       ·as_aux_lemma=>
         obtain rfl:=h3
         clear h1 h2
         obtain ⟨n,g0,g1,g2⟩:=yJ.out.k2 (by rw [←jV.out];decide)
         have g1:t1=3:=g1.trans jV.out.symm
         have g2:t2=(n:Int):=g2
         obtain rfl:NA=((n:Int),true):=yL.out.trans (by unfold cB;rw [g0])
         subst g1
         subst g2
         clear c2 cx ca g0
         go_wp2_with (at_builtin;refine aK (y:=fun _=> .slice a9 v8.length c9) rfl _ _ rfl rfl (by rfl) pQ.out.vs.os (by decide) Tryz.underlying55 Tryz.infoBs rfl rfl (fun i hi=> ⟨rfl,fun x e=> by cases e⟩) (fun z hz=> by simp [Value.cells] at hz;subst hz;exact fun x e=> by cases e) (by have:=fM.out;have:=bP.out;have:=jD.out;unfold maxLen;omega) (by have:=fM.out;have:=bP.out;have:=jD.out;omega) ?_;intro v6 w6 iD hc6 iJ;have HA:=Lib.hid (pQ.out.app yC.out iD hc6 iJ);clear iD hc6 iJ)
         go_roundw
         case rel=> exact ⟨k+1,bP.out,by go_num,S8,F8,T++ [v8],_,HA.out,by have:=tq.out;omega,by rw [List.length_append,List.length_singleton];have:=fM.out;omega⟩
         case measure=> have:=bP.out;simp [intOf] <;> omega
       by_cases h4:kd=4
       ·as_aux_lemma=>
         obtain rfl:=h4
         clear h1 h2 h3
         obtain ⟨n,n',g0,DF,g1,g2,g3⟩:=yJ.out.k4 (by rw [←jV.out];decide)
         have g1:t1=4:=g1.trans jV.out.symm
         have g2:t2=(n:Int):=g2
         have g3:t3=(n':Int):=g3
         obtain rfl:NA=((n:Int),true):=yL.out.trans (by unfold cB;rw [g0])
         obtain rfl:NB=((n':Int),true):=Cq.out.trans (by unfold cB;rw [DF])
         subst g1
         subst g2
         subst g3
         clear cx ca g0 DF
         go_wp2_with (at_builtin;refine aK (y:=fun _=> .slice a9 v8.length c9) rfl _ _ rfl rfl (by rfl) pQ.out.vs.os (by decide) Tryz.underlying55 Tryz.infoBs rfl rfl (fun i hi=> ⟨rfl,fun x e=> by cases e⟩) (fun z hz=> by simp [Value.cells] at hz;subst hz;exact fun x e=> by cases e) (by have:=fM.out;have:=bP.out;have:=jD.out;unfold maxLen;omega) (by have:=fM.out;have:=bP.out;have:=jD.out;omega) ?_;intro v6 w6 iD hc6 iJ;have HA:=Lib.hid (pQ.out.app yC.out iD hc6 iJ);clear iD hc6 iJ)
         go_roundw
         case rel=> exact ⟨k+1,bP.out,by go_num,S8,F8,T++ [v8],_,HA.out,by have:=tq.out;omega,by rw [List.length_append,List.length_singleton];have:=fM.out;omega⟩
         case measure=> have:=bP.out;simp [intOf] <;> omega
       by_cases h5:kd=5
       ·as_aux_lemma=>
         obtain rfl:=h5
         clear h1 h2 h3 h4
         obtain ⟨n,n',g0,DF,g1,g2,g3⟩:=yJ.out.k4 (by rw [←jV.out];decide)
         have g1:t1=5:=g1.trans jV.out.symm
         have g2:t2=(n:Int):=g2
         have g3:t3=(n':Int):=g3
         obtain rfl:NA=((n:Int),true):=yL.out.trans (by unfold cB;rw [g0])
         obtain rfl:NB=((n':Int),true):=Cq.out.trans (by unfold cB;rw [DF])
         subst g1
         subst g2
         subst g3
         clear cx ca g0 DF
         go_wp2_with (at_builtin;refine aK (y:=fun _=> .slice a9 v8.length c9) rfl _ _ rfl rfl (by rfl) pQ.out.vs.os (by decide) Tryz.underlying55 Tryz.infoBs rfl rfl (fun i hi=> ⟨rfl,fun x e=> by cases e⟩) (fun z hz=> by simp [Value.cells] at hz;subst hz;exact fun x e=> by cases e) (by have:=fM.out;have:=bP.out;have:=jD.out;unfold maxLen;omega) (by have:=fM.out;have:=bP.out;have:=jD.out;omega) ?_;intro v6 w6 iD hc6 iJ;have HA:=Lib.hid (pQ.out.app yC.out iD hc6 iJ);clear iD hc6 iJ)
         go_roundw
         case rel=> exact ⟨k+1,bP.out,by go_num,S8,F8,T++ [v8],_,HA.out,by have:=tq.out;omega,by rw [List.length_append,List.length_singleton];have:=fM.out;omega⟩
         case measure=> have:=bP.out;simp [intOf] <;> omega
       by_cases h6:kd=6
       ·as_aux_lemma=>
         obtain rfl:=h6
         clear h1 h2 h3 h4 h5
         obtain ⟨n,g0,g1,g2⟩:=yJ.out.k2 (by rw [←jV.out];decide)
         have g1:t1=6:=g1.trans jV.out.symm
         have g2:t2=(n:Int):=g2
         obtain rfl:NA=((n:Int),true):=yL.out.trans (by unfold cB;rw [g0])
         subst g1
         subst g2
         clear c2 cx ca g0
         go_wp2_with (at_builtin;refine aK (y:=fun _=> .slice a9 v8.length c9) rfl _ _ rfl rfl (by rfl) pQ.out.vs.os (by decide) Tryz.underlying55 Tryz.infoBs rfl rfl (fun i hi=> ⟨rfl,fun x e=> by cases e⟩) (fun z hz=> by simp [Value.cells] at hz;subst hz;exact fun x e=> by cases e) (by have:=fM.out;have:=bP.out;have:=jD.out;unfold maxLen;omega) (by have:=fM.out;have:=bP.out;have:=jD.out;omega) ?_;intro v6 w6 iD hc6 iJ;have HA:=Lib.hid (pQ.out.app yC.out iD hc6 iJ);clear iD hc6 iJ)
         go_roundw
         case rel=> exact ⟨k+1,bP.out,by go_num,S8,F8,T++ [v8],_,HA.out,by have:=tq.out;omega,by rw [List.length_append,List.length_singleton];have:=fM.out;omega⟩
         case measure=> have:=bP.out;simp [intOf] <;> omega
       by_cases h7:kd=7
       ·as_aux_lemma=>
         obtain rfl:=h7
         clear h1 h2 h3 h4 h5 h6
         obtain ⟨n,g0,g1,g2⟩:=yJ.out.k2 (by rw [←jV.out];decide)
         have g1:t1=7:=g1.trans jV.out.symm
         have g2:t2=(n:Int):=g2
         obtain rfl:NA=((n:Int),true):=yL.out.trans (by unfold cB;rw [g0])
         subst g1
         subst g2
         clear c2 cx ca g0
         go_wp2_with (at_builtin;refine aK (y:=fun _=> .slice a9 v8.length c9) rfl _ _ rfl rfl (by rfl) pQ.out.vs.os (by decide) Tryz.underlying55 Tryz.infoBs rfl rfl (fun i hi=> ⟨rfl,fun x e=> by cases e⟩) (fun z hz=> by simp [Value.cells] at hz;subst hz;exact fun x e=> by cases e) (by have:=fM.out;have:=bP.out;have:=jD.out;unfold maxLen;omega) (by have:=fM.out;have:=bP.out;have:=jD.out;omega) ?_;intro v6 w6 iD hc6 iJ;have HA:=Lib.hid (pQ.out.app yC.out iD hc6 iJ);clear iD hc6 iJ)
         go_roundw
         case rel=> exact ⟨k+1,bP.out,by go_num,S8,F8,T++ [v8],_,HA.out,by have:=tq.out;omega,by rw [List.length_append,List.length_singleton];have:=fM.out;omega⟩
         case measure=> have:=bP.out;simp [intOf] <;> omega
       by_cases h8:kd=8
       ·as_aux_lemma=>
         obtain rfl:=h8
         clear h1 h2 h3 h4 h5 h6 h7
         obtain ⟨n,g0,g1,g2,g3⟩:=yJ.out.k8 jV.out.symm
         have g1:t1=8:=g1
         have g2:t2=(n:Int):=g2
         have g3:aM S8 t3=(d.2.2.2,true):=g3
         obtain rfl:NA=((n:Int),true):=yL.out.trans (by unfold cB;rw [g0])
         rw [g3] at Ef ⊢
         subst g1
         subst g2
         have Af:=Lib.hid (oC _ _ d.2.2.2.length d.2.2.2.length (bf d.2.2.2) (bf d.2.2.2) Ak Ef.out DU.out.rd)
         rw [show iH d.2.2.2.length (bf d.2.2.2) d.2.2.2.length (bf d.2.2.2)=true from by unfold iH;rw [decide_eq_true rfl,fV];rfl] at Af
         clear c2 ca g0 g3
         go_wp2_with fail
         refine Af.out.mono ?_
         rintro e Fj ⟨rfl,b15⟩
         have BM:=Lib.hid (pQ.out.below b15)
         have DV:=Lib.hid (yC.out.below b15)
         clear b15
         go_wp2_with (at_builtin;refine aK (y:=fun _=> .slice a9 v8.length c9) rfl _ _ rfl rfl (by rfl) BM.out.vs.os (by decide) Tryz.underlying55 Tryz.infoBs rfl rfl (fun i hi=> ⟨rfl,fun x e=> by cases e⟩) (fun z hz=> by simp [Value.cells] at hz;subst hz;exact fun x e=> by cases e) (by have:=fM.out;have:=bP.out;have:=jD.out;unfold maxLen;omega) (by have:=fM.out;have:=bP.out;have:=jD.out;omega) ?_;intro v6 w6 iD hc6 iJ;have HA:=Lib.hid (BM.out.app DV.out iD hc6 iJ);clear iD hc6 iJ)
         go_roundw
         case rel=> exact ⟨k+1,bP.out,by go_num,S8,F8,T++ [v8],_,HA.out,by have:=tq.out;omega,by rw [List.length_append,List.length_singleton];have:=fM.out;omega⟩
         case measure=> have:=bP.out;simp [intOf] <;> omega
       by_cases h9:kd=9
       ·as_aux_lemma=>
         obtain rfl:=h9
         clear h1 h2 h3 h4 h5 h6 h7 h8
         obtain ⟨g1,g3⟩:=yJ.out.k9 jV.out.symm
         have g1:t1=9:=g1
         have hx:pX S8 v8=(d.2.2.2,0):=by unfold pX;rw [El.out];simp only;rw [g3,if_pos rfl]
         subst g1
         have Eb:=Lib.hid (uN pQ.out.su yC.out (by have:=tq.out;have:=bP.out;have:=jD.out;omega))
         rw [hx] at Eb
         clear c2 ca g3 hx
         go_wp2_with fail
         refine Eb.out.mono ?_
         rintro e Fj ⟨y,rfl,hy,b15⟩
         have BM:=Lib.hid (pQ.out.below b15)
         have DV:=Lib.hid (yC.out.below b15)
         have c0':=(b15.cell (p:=⟨xt,0,none⟩) (World.block_lt_of_cell? _ _ c0)).trans c0
         have KG:=(b15.cell (p:=⟨xd,3,none⟩) (World.block_lt_of_cell? _ _ cx)).trans cx
         have Af:=Lib.hid (oC _ _ d.2.2.2.length d.2.2.2.length (bf d.2.2.2) (bf d.2.2.2) Fj hy (DU.out.below b15).rd)
         rw [show iH d.2.2.2.length (bf d.2.2.2) d.2.2.2.length (bf d.2.2.2)=true from by unfold iH;rw [decide_eq_true rfl,fV];rfl] at Af
         obtain ⟨ay,cy,ey,_⟩:=hy
         subst ey
         clear b15 c0 cx ck c1
         go_wp2_with fail
         refine Af.out.mono ?_
         rintro e w16 ⟨rfl,b16⟩
         have Jf:=Lib.hid (BM.out.below b16)
         have KJ:=Lib.hid (DV.out.below b16)
         clear b16
         go_wp2_with (at_builtin;refine aK (y:=fun _=> .slice a9 v8.length c9) rfl _ _ rfl rfl (by rfl) Jf.out.vs.os (by decide) Tryz.underlying55 Tryz.infoBs rfl rfl (fun i hi=> ⟨rfl,fun x e=> by cases e⟩) (fun z hz=> by simp [Value.cells] at hz;subst hz;exact fun x e=> by cases e) (by have:=fM.out;have:=bP.out;have:=jD.out;unfold maxLen;omega) (by have:=fM.out;have:=bP.out;have:=jD.out;omega) ?_;intro v6 w6 iD hc6 iJ;have HA:=Lib.hid (Jf.out.app KJ.out iD hc6 iJ);clear iD hc6 iJ)
         go_roundw
         case rel=> exact ⟨k+1,bP.out,by go_num,S8,F8,T++ [v8],_,HA.out,by have:=tq.out;omega,by rw [List.length_append,List.length_singleton];have:=fM.out;omega⟩
         case measure=> have:=bP.out;simp [intOf] <;> omega
       have JD:¬ (1≤d.1∧d.1≤9):=by rw [←jV.out];omega
       have q1:(kd==1)=false:=by simpa using h1
       have q2:(kd==2)=false:=by simpa using h2
       have q3:(kd==3)=false:=by simpa using h3
       have q4:(kd==4)=false:=by simpa using h4
       have q5:(kd==5)=false:=by simpa using h5
       have q6:(kd==6)=false:=by simpa using h6
       have q7:(kd==7)=false:=by simpa using h7
       have q8:(kd==8)=false:=by simpa using h8
       have q9:(kd==9)=false:=by simpa using h9
       clear h1 h2 h3 h4 h5 h6 h7 h8 h9
       as_aux_lemma=>
        obtain ⟨g1,g3⟩:=yJ.out.k0 JD
        have g1:t1=10:=g1
        have g3:aM S8 t2=(d.2.2.2,true):=g3
        rw [g3] at Eh ⊢
        subst g1
        have Af:=Lib.hid (oC _ _ d.2.2.2.length d.2.2.2.length (bf d.2.2.2) (bf d.2.2.2) Ak Eh.out DU.out.rd)
        rw [show iH d.2.2.2.length (bf d.2.2.2) d.2.2.2.length (bf d.2.2.2)=true from by unfold iH;rw [decide_eq_true rfl,fV];rfl] at Af
        clear c2 c1 ca g3 JD
        go_wp2_with fail
        refine Af.out.mono ?_
        rintro e Fj ⟨rfl,b15⟩
        have BM:=Lib.hid (pQ.out.below b15)
        have DV:=Lib.hid (yC.out.below b15)
        clear b15
        go_wp2_with (at_builtin;refine aK (y:=fun _=> .slice a9 v8.length c9) rfl _ _ rfl rfl (by rfl) BM.out.vs.os (by decide) Tryz.underlying55 Tryz.infoBs rfl rfl (fun i hi=> ⟨rfl,fun x e=> by cases e⟩) (fun z hz=> by simp [Value.cells] at hz;subst hz;exact fun x e=> by cases e) (by have:=fM.out;have:=bP.out;have:=jD.out;unfold maxLen;omega) (by have:=fM.out;have:=bP.out;have:=jD.out;omega) ?_;intro v6 w6 iD hc6 iJ;have HA:=Lib.hid (BM.out.app DV.out iD hc6 iJ);clear iD hc6 iJ)
        go_roundw
        case rel=> exact ⟨k+1,bP.out,by go_num,S8,F8,T++ [v8],_,HA.out,by have:=tq.out;omega,by rw [List.length_append,List.length_singleton];have:=fM.out;omega⟩
        case measure=> have:=bP.out;simp [intOf] <;> omega
end
end Go.Proofs.YtpcjekgfnfjbpaaGreat
