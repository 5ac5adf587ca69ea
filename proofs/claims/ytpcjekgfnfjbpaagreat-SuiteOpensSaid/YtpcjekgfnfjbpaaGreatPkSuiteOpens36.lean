/-
  Part 36 of the texts that the proof of SuiteOpens rests on, one after the other. Conditions: named in each theorem.
-/
import Derived.Test.YtpcjekgfnfjbpaaGreatPkSuiteOpens35
import Derived.Test.YtpcjekgfnfjbpaaGreatPkSuiteOpens30
set_option linter.unusedVariables false
set_option linter.unusedSimpArgs false
set_option maxRecDepth 100000
set_option maxHeartbeats 12800000
namespace Go.Proofs.YtpcjekgfnfjbpaaGreat
open Go.RowKit Go.aG Go.ChangeShapes Go.Maps
attribute [local go_sem ↓] Go.wp_at_zero Go.wp_at_succ
theorem _root_.Go.aG.aZ.setRow (F:Nat→Prop) (w:World) (g:Nat) (cs:Array Value) (hF:F g):aZ F w (w.setRow g cs):=
 have h:=aF (Below.refl 0 w) (Nat.zero_le g) cs
 ⟨h.os,h.tape,h.output,h.size,fun b _ hn=> setRow_other w g b cs fun e=> hn (e▸hF)⟩
def rG:ByteArray:=⟨#[100,114,97,119]⟩
def jH (sd:Nat→Int) (n:Nat):Nat→Int:=qB 32 sd (jd rG.size (fun _=> 8) 1) (nK rG.size (iV rG) (fun _=> 8) (fun _=> jS n) 1)
theorem zW (sd:Nat→Int) (n i:Nat):0≤jH sd n i∧jH sd n i<256:=sw _ _ _ _ i
theorem yD (v:Value) (sd:Nat→Int) (n:Nat) (hf:∀i,i<32→0≤sd i∧sd i<256) (vc:Value) (w:World) (h:Rd .u8 w v 32 sd) (hc:ko w vc 1 (fun _=> 8) (fun _=> jS n)):
  Calls Tryz.prog 120 #[v,.string rG,vc] w fun e w'=> e=.returned (.tuple #[.agg (arr .u8 32 (jH sd n)),.int .i64 0])∧Below w.heap.size w w':=
 yC v 32 sd rG vc 1 (fun _=> 8) (fun _=> jS n) w h (by decide) (by decide) hf (by decide) hc (by decide) (fun j hj=> by decide) (fun j hj i hi=> mo _ _)
section
variable {B : Nat} {w w' w1 w2 w3 : World} {p q : Nat} {F G G' : Nat → Prop} {sd : Nat → Int} {n : Nat} {v u : Value} {l : List Int}
structure qj (B:Nat) (w:World) (p:Nat) (sd:Nat→Int) (n:Nat):Prop where
 r:dH w p 1 sd n (.pointer none)
 Fy:∀i,i<32→0≤sd i∧sd i<256
 hp:B≤p
theorem qj.below (h:qj B w p sd n) (hb:Below w.heap.size w w'):qj B w' p sd n:=⟨h.r.below hb,h.Fy,h.hp⟩
theorem qj.keep {H:Nat→Prop} (h:qj B w p sd n) (hc:aZ H w w') (hF:¬ H p):qj B w' p sd n:=⟨h.r.keep hc hF,h.Fy,h.hp⟩
theorem dH.next {kd m m':Int} {s:Value} (h:dH w p kd sd m s):dH (w.setCell ⟨p,33,none⟩ (.int .i64 m')) p kd sd m' s:=by
 refine ⟨h.row.setCell _ rfl _,?_,fun i hi=> ?_,?_,?_⟩
 ·rw [World.cell?_setCell_other _ _ _ _ (by intro e;cases e)];exact h.ck
 ·rw [World.cell?_setCell_other _ _ _ _ (by intro e;have:=congrArg Addr.off e;simp only at this;omega)];exact h.cs i hi
 ·exact World.cell?_setCell_same _ _ _ h.cn
 ·rw [World.cell?_setCell_other _ _ _ _ (by intro e;cases e)];exact h.cp
theorem qj.next (h:qj B w p sd n) {m:Nat}:qj B (w.setCell ⟨p,33,none⟩ (.int .i64 (m:Int))) p sd m:=⟨h.r.next,h.Fy,h.hp⟩
theorem qj.Dz (h:qj B w p sd n) (m:Int):rT p (fun _=> False) w (w.setCell ⟨p,33,none⟩ (.int .i64 m)):=
 ⟨.set _ _ _ _ (.inl rfl),fun b hb _ i x hx=> by
  rw [World.cell?_setCell_other _ _ _ _ (by intro e;cases e;rw [h.r.cn] at hx;cases hx)];exact hx⟩
theorem qF (h:qj B w p sd n) (hn:n≤100000):Calls Tryz.prog 66 #[.pointer (some ⟨p,0,none⟩)] w fun e w'=> e=.returned (.agg (arr .u8 32 (jH sd n)))∧qj B w' p sd (n+1)∧rT p (fun _=> False) w w':=by
 have H:=Lib.hid h
 have HN:=Lib.hid hn
 have cn:=h.r.cn
 have Ng:Hid (p<w.heap.size):=Lib.hid h.r.row.lt
 clear h hn
 go_enter Tryz.func66,Tryz.ntmps66
 clear cn
 go_upto_region 1 with (fail)
 refine aD (fun w1=> aI .u8 w1 w.heap.size 32 (fun _=> 0)∧Below w.heap.size w w1) ⟨aI.newAt rfl (by rfl),(Below.refl _ _).alloc (Nat.le_refl _) _⟩ ?_
 rintro w1 ⟨hZ,hbel⟩
 have H1:=Lib.hid (H.out.below hbel)
 have cn:=H1.out.r.cn
 have HZ:=Lib.hid hZ
 have HB:=Lib.hid hbel
 clear hZ hbel
 go_wp2_with fail
 refine (sP (n:Int) 8 w1 (by decide) (by decide) (by omega) (by have:=HN.out;omega) (fun h=> absurd h (by decide))).mono ?_
 rintro e w2 ⟨u,rfl,hu,b2⟩
 have HU:=Lib.hid hu.rd
 obtain ⟨au,cu,rfl,_⟩:=hu.rd
 have H2:=Lib.hid (H1.out.below b2)
 have HZ2:=Lib.hid (HZ.out.kept b2)
 have HB2:=Lib.hid (HB.out.trans (b2.mono HB.out.size))
 clear hu b2 cn
 go_wp2_with fail
 have BA:=(Below.refl w2.heap.size w2).alloc (Nat.le_refl _) (.cells [Value.slice au 8 cu].toArray 23)
 refine (yD _ sd n H2.out.Fy _ _ (H2.out.r.below BA).rd (new1 HU.out (Below.refl _ _))).mono ?_
 rintro e w3 ⟨rfl,b3⟩
 have B3:=Lib.hid (BA.trans (b3.mono (by rw [World.size_alloc];omega)))
 have H3:=Lib.hid (H2.out.below B3.out)
 have HZ3:=Lib.hid (HZ2.out.kept B3.out)
 have HB3:=Lib.hid (HB2.out.trans (B3.out.mono HB2.out.size))
 clear b3 BA
 obtain ⟨D,hD⟩:∃D,D=jH sd n:=⟨_,rfl⟩
 rw [←hD]
 have ND:=Lib.hid hD
 clear hD
 go_upto_region 3 with (refine bE rfl 22 _ _ rfl .u8 w3.heap.size 32 (fun _=> 0) D Tryz.size22 rfl rfl (aI.newAt rfl (by rfl)) ?_)
 refine aD (fun w4=> aI .u8 w4 w.heap.size 32 (fun _=> 0)∧aI .u8 w4 w3.heap.size 32 D∧Below w3.heap.size w3 w4) ⟨(HZ3.out.alloc _).bG _ (Nat.ne_of_lt HZ3.out.lt) _,(show aI .u8 (w3.alloc (.cells (arr .u8 32 (fun _=> 0)) 22)) w3.heap.size 32 (fun _=> 0) from aI.newAt rfl rfl).setRow 32 D,aF ((Below.refl _ _).alloc (Nat.le_refl _) _) (Nat.le_refl _) _⟩ ?_
 rintro w4 ⟨h4,h5,hbel⟩
 have H4:=Lib.hid (H3.out.below hbel)
 have CX:=Lib.hid (HB3.out.trans (hbel.mono HB3.out.size))
 have MV:=Lib.hid h4
 have HD4:=Lib.hid h5
 have CJ:Hid (p<w.heap.size∧w.heap.size<w3.heap.size):=Lib.hid ⟨Ng.out,HZ3.out.lt⟩
 clear h4 h5 hbel
 have cn:=H4.out.r.cn
 have fr:=H4.out.r.row.free 33
 have hnb:(n:Int)<1000000:=by have:=HN.out;omega
 go_upto_region 4 with (fail)
 have CS:=H4.out.Dz ((n:Int)+1)
 refine aD (fun w5=> qj B w5 p sd (n+1)∧aI .u8 w5 w.heap.size 32 (fun _=> 0)∧aI .u8 w5 w3.heap.size 32 D∧rT p (fun _=> False) w w5) ⟨H4.out.next (m:=n+1),MV.out.jh CS.jh (fun e=> e.elim (fun e=> by have:=CJ.out;omega) id),HD4.out.jh CS.jh (fun e=> e.elim (fun e=> by have:=CJ.out;omega) id),(rT.of_below CX.out _).trans CS fun _ h=> h.elim⟩ ?_
 rintro w5 ⟨h5,Ju,hd5,c5⟩
 have H5:=Lib.hid h5
 have Kv:=Lib.hid Ju
 have HD5:=Lib.hid hd5
 have C5:=Lib.hid c5
 clear h5 Ju hd5 c5 CS cn fr hnb
 go_wp2_with (first
  | (refine iq rfl 22 _ rfl .u8 w3.heap.size 32 D 5 Tryz.underlying22 Tryz.size22 rfl HD5.out ?_)
  | (refine bE rfl 22 _ _ rfl .u8 w.heap.size 32 (fun _=> 0) D Tryz.size22 rfl rfl Kv.out ?_))
 obtain rfl:=ND.out
 have CR:=aZ.setRow (fun b=> b=w.heap.size) w5 w.heap.size (arr .u8 32 (jH sd n)) rfl
 exact bodyPost_ret (bQ rfl _ _ .u8 w.heap.size 32 _ 5 rfl (Kv.out.setRow _ _) Tryz.underlying22 Tryz.size22) rfl ⟨rfl,H5.out.keep CR fun e=> by have:=CJ.out;omega,C5.out.trans (rT.Br CR) fun b e=> .inr (by omega)⟩
end
end Go.Proofs.YtpcjekgfnfjbpaaGreat
namespace Go.Proofs.YtpcjekgfnfjbpaaGreat
open Go.RowKit Go.aG Go.ChangeShapes Go.Maps
attribute [local go_sem ↓] Go.wp_at_zero Go.wp_at_succ
inductive Su where
 | by (sd:Nat→Int) (n:Nat)
 | tm (S:TS)
abbrev UA:Type:=List Int × Int × Su
def FP (B:Nat) (w:World) (p:Nat) (F:Nat→Prop):Su→Prop
 | .by sd n=> qj B w p sd n∧∀b,¬ F b
 | .tm S=> fO B w p F S
section
variable {B : Nat} {w w' w1 w2 w3 : World} {p q : Nat} {F F' G G' : Nat → Prop} {sd : Nat → Int} {n : Nat} {v u v' : Value} {l l' : List Int} {X X' : Su} {S : TS}
theorem fO.Jo (h:fO B w p F S):p<w.heap.size∧B≤p:=by obtain ⟨q,G,h,_⟩:=h;exact ⟨h.r.row.lt,h.hp⟩
def Ig (B:Nat) (w:World) (p:Nat) (F:Nat→Prop) (v:Value) (r:UA) (w':World):Prop:=∃F',FP B w' p F' r.2.2∧bg F' w' v r.1∧rT p F w w'∧∀b,F' b→F b∨w.heap.size≤b
theorem bg.any {f:Nat→Int} {m:Nat} (h:Rd .u8 w v m f) (hf:∀i,i<m→0≤f i∧f i<256) (hF:∀b,¬ F b):bg F w v (mV m f):=⟨lJ hf,h.mV,fun _ b _=> hF b⟩
def Su.draw:Su→Int→UA
 | .by sd n,s=> if isSort s=true then (mV 32 (jH sd n),0,.by sd (n+1)) else ([],2,.by sd n)
 | .tm S,s=> ((gI S s).1,(gI S s).2.1,.tm (gI S s).2.2)
theorem uz (h:FP B w p F (.by sd n)) (hb:Below w.heap.size w w') (er:Int):Ig B w p F (.slice none 0 0) ([],er,.by sd n) w':=
 ⟨F,⟨h.1.below hb,h.2⟩,bg.nil _ _,.of_below hb _,fun b hb=> .inl hb⟩
theorem zo {m k:Nat} {f:Nat→Int} (h:FP B w p F (.by sd n)) (hs:qj B w1 p sd k) (hc:rT p (fun _=> False) w w1) (hr:Rd .u8 w1 v m f) (hf:∀i,i<m→0≤f i∧f i<256) (er:Int):Ig B w p F v (mV m f,er,.by sd k) w1:=
 ⟨F,⟨hs,h.2⟩,bg.any hr hf h.2,⟨hc.jh.mono fun b _ hb=> hb.imp id fun h=> h.elim,fun b hb _=> hc.u8 b hb id⟩,fun b hb=> .inl hb⟩
theorem vD (h:FP B w p F (.by sd n)) (s:Int) (hn:n≤900):Calls Tryz.prog 26 #[.pointer (some ⟨p,0,none⟩),.int .i64 s] w fun e w'=> ∃u,e=.returned (.tuple #[u,.int .i64 (Su.draw (.by sd n) s).2.1])∧Ig B w p F u (Su.draw (.by sd n) s) w':=by
 have HQ:=Lib.hid h
 have HL:=Lib.hid hn
 have HW:=Lib.hid (aQ h.1.r)
 obtain ⟨R,hR⟩:∃x,x=Su.draw (.by sd n) s:=⟨_,rfl⟩
 rw [←hR]
 have HR:=Lib.hid hR
 have ck:=h.1.r.ck
 clear hR h hn
 by_cases hs:1≤s∧s≤4
 ·have HS:Hid (isSort s=true):=Lib.hid (by unfold isSort;rw [decide_eq_true hs.1,decide_eq_true hs.2];rfl)
  have HE:Hid (R=(mV 32 (jH sd n),0,.by sd (n+1))):=Lib.hid (by rw [HR.out];exact if_pos HS.out)
  have h1:decide (s<1)=false:=decide_eq_false (by omega)
  have h2:decide (4<s)=false:=decide_eq_false (by omega)
  clear hs
  go_enter Tryz.func26,Tryz.ntmps26
  go_wp2_with fail
  refine HW.out.mono ?_
  rintro e w1 ⟨rfl,rfl⟩
  go_wp2_with fail
  refine (qF HQ.out.1 (by have:=HL.out;omega)).mono ?_
  rintro e w2 ⟨rfl,h2,c2⟩
  have H2:=Lib.hid h2
  have C2:=Lib.hid c2
  clear h2 c2 ck
  obtain ⟨D,hD⟩:∃D,D=jH sd n:=⟨_,rfl⟩
  rw [←hD] at HE ⊢
  have NG:Hid (∀i,i<32→0≤D i∧D i<256):=Lib.hid fun i _=> hD▸zW sd n i
  clear hD
  go_upto_region 8 with (refine bE rfl 22 _ _ rfl .u8 w2.heap.size 32 (fun _=> 0) D Tryz.size22 rfl rfl (aI.newAt rfl (by rfl)) ?_)
  refine aD (fun w4=> aI .u8 w4 w2.heap.size 32 D∧Below w2.heap.size w2 w4) ⟨(show aI .u8 (w2.alloc (.cells (arr .u8 32 (fun _=> 0)) 22)) w2.heap.size 32 (fun _=> 0) from aI.newAt rfl rfl).setRow 32 D,aF ((Below.refl _ _).alloc (Nat.le_refl _) _) (Nat.le_refl _) _⟩ ?_
  rintro w4 ⟨h4,b4⟩
  have HD:=Lib.hid (zo HQ.out (H2.out.below b4) (C2.out.trans (rT.of_below b4 (fun _=> False)) fun _ h=> .inl h) (h4.rd (by decide)) NG.out 0)
  clear h4 b4
  go_wp2
  go_ret2
  rw [HE.out]
  exact ⟨_,rfl,HD.out⟩
 ·have HE:Hid (R=([],2,.by sd n)):=Lib.hid (by
   rw [HR.out]
   refine if_neg fun h=> ?_
   simp only [isSort,Bool.and_eq_true,decide_eq_true_eq] at h
   exact hs h)
  by_cases h1:s<1
  ·have h1':decide (s<1)=true:=decide_eq_true h1
   clear hs h1
   go_enter Tryz.func26,Tryz.ntmps26
   go_wp2_with fail
   refine HW.out.mono ?_
   rintro e w1 ⟨rfl,rfl⟩
   go_wp2
   go_ret2
   rw [HE.out]
   exact ⟨_,rfl,uz HQ.out (Below.refl _ _) 2⟩
  ·have h1':decide (s<1)=false:=decide_eq_false h1
   have h2':decide (4<s)=true:=decide_eq_true (by omega)
   clear hs h1
   go_enter Tryz.func26,Tryz.ntmps26
   go_wp2_with fail
   refine HW.out.mono ?_
   rintro e w1 ⟨rfl,rfl⟩
   go_wp2
   go_ret2
   rw [HE.out]
   exact ⟨_,rfl,uz HQ.out (Below.refl _ _) 2⟩
end
end Go.Proofs.YtpcjekgfnfjbpaaGreat
namespace Go.Proofs.YtpcjekgfnfjbpaaGreat
open Go.RowKit Go.aG Go.ChangeShapes Go.Maps
attribute [local go_sem ↓] Go.wp_at_zero Go.wp_at_succ
def kX (kd:Int) (sd:Nat→Int) (s:Value):Array Value:=(.int .i64 kd::(vals .u8 32 sd++ [.int .i64 0,s])).toArray
theorem Bj (kd:Int) (sd:Nat→Int) (s:Value):(kX kd sd s)[0]? =some (.int .i64 kd):=rfl
theorem Bh (kd:Int) (sd:Nat→Int) (s:Value) {i:Nat} (h:i<32):(kX kd sd s)[1+i]? =some (.int .u8 (sd i)):=by
 unfold kX
 rw [List.getElem?_toArray,Nat.add_comm,List.getElem?_cons_succ,List.getElem?_append_left (by simpa using h)]
 exact aK h
theorem zu (kd:Int) (sd:Nat→Int) (s:Value):(kX kd sd s)[33]? =some (.int .i64 0):=rfl
theorem zq (kd:Int) (sd:Nat→Int) (s:Value):(kX kd sd s)[34]? =some s:=rfl
theorem dH.new (w:World) (kd:Int) (sd:Nat→Int) (s:Value):dH (w.alloc (.cells (kX kd sd s) 105)) w.heap.size kd sd 0 s:=by
 have hb:=heap_alloc_new w (.cells (kX kd sd s) 105)
 have hc:=fun i=> cell_of_row _ _ i _ _ (0,0) hb
 exact ⟨⟨_,hb,rfl⟩,(hc 0).trans (Bj _ _ _),fun i hi=> (hc (1+i)).trans (Bh _ _ _ hi),(hc 33).trans (zu _ _ _),(hc 34).trans (zq _ _ _)⟩
theorem kD (w:World):Calls Tryz.prog 44 #[] w fun e w'=> ∃p F,e=.returned (.pointer (some ⟨p,0,none⟩))∧fO w.heap.size w' p F ⟨[], []⟩∧Below w.heap.size w w':=by
 go_enter Tryz.func44,Tryz.ntmps44
 go_wp2_with fail
 refine (wH w).mono ?_
 rintro e w1 ⟨q,G,rfl,h1,b1⟩
 have H1:=Lib.hid h1
 have B1:=Lib.hid b1
 clear h1 b1
 go_wp2
 go_ret
 have hr:=dH.new w1 2 (fun _=> 0) (.pointer (some ⟨q,0,none⟩))
 have ba:=(Below.refl w1.heap.size w1).alloc (Nat.le_refl _) (.cells (kX 2 (fun _=> 0) (.pointer (some ⟨q,0,none⟩))) 105)
 exact ⟨_,fun b=> b=w1.heap.size∨G b,rfl,⟨q,G,⟨hr,H1.out.below ba,TS.few.nil,B1.out.size,fun hg=> by have:=H1.out.lt hg;omega⟩,fun _=> Iff.rfl⟩,B1.out.trans (ba.mono B1.out.size)⟩
theorem vV (sd:Nat→Int):Array.foldl (fun (cs:Array Value) (x:Value × Nat)=> cs.setIfInBounds (1+x.snd) x.fst) #[.int .i64 1,.int .u8 0,.int .u8 0,.int .u8 0,.int .u8 0,.int .u8 0,.int .u8 0,.int .u8 0,.int .u8 0,.int .u8 0,.int .u8 0,.int .u8 0,.int .u8 0,.int .u8 0,.int .u8 0,.int .u8 0,.int .u8 0,.int .u8 0,.int .u8 0,.int .u8 0,.int .u8 0,.int .u8 0,.int .u8 0,.int .u8 0,.int .u8 0,.int .u8 0,.int .u8 0,.int .u8 0,.int .u8 0,.int .u8 0,.int .u8 0,.int .u8 0,.int .u8 0,.int .i64 0,.pointer none] (arr .u8 32 sd).zipIdx 0 32=kX 1 sd (.pointer none):=by kernel_rfl
theorem qH (sd:Nat→Int) (hs:∀i,i<32→0≤sd i∧sd i<256) (w:World):Calls Tryz.prog 12 #[.agg (arr .u8 32 sd)] w fun e w'=> ∃p,e=.returned (.pointer (some ⟨p,0,none⟩))∧qj w.heap.size w' p sd 0∧Below w.heap.size w w':=by
 have HS:=Lib.hid hs
 clear hs
 go_enter Tryz.func12,Tryz.ntmps12
 go_upto_region 1 with (fail)
 refine aD (fun w1=> aI .u8 w1 w.heap.size 32 sd∧Below w.heap.size w w1) ⟨aI.newAt rfl rfl,(Below.refl _ _).alloc (Nat.le_refl _) _⟩ ?_
 rintro w1 ⟨h1,b1⟩
 have H1:=Lib.hid h1
 have B1:=Lib.hid b1
 clear h1 b1
 go_wp2_with (refine iq rfl 22 _ rfl .u8 w.heap.size 32 sd 5 Tryz.underlying22 Tryz.size22 rfl H1.out ?_)
 rw [vV]
 go_ret
 have hr:=dH.new w1 1 sd (.pointer none)
 have ba:=(Below.refl w1.heap.size w1).alloc (Nat.le_refl _) (.cells (kX 1 sd (.pointer none)) 105)
 have HR:Hid (qj w.heap.size (w1.alloc (.cells (kX 1 sd (.pointer none)) 105)) w1.heap.size sd 0∧Below w.heap.size w (w1.alloc (.cells (kX 1 sd (.pointer none)) 105))):=Lib.hid ⟨⟨hr,HS.out,B1.out.size⟩,B1.out.trans (ba.mono B1.out.size)⟩
 exact ⟨w1.heap.size,rfl,HR.out⟩
end Go.Proofs.YtpcjekgfnfjbpaaGreat
namespace Go.Proofs.YtpcjekgfnfjbpaaGreat
open Go.RowKit Go.aG Go.ChangeShapes Go.Maps
attribute [local go_sem ↓] Go.wp_at_zero Go.wp_at_succ
theorem Af:(Value.agg #[.int .u8 1,.int .u8 0,.int .u8 0,.int .u8 0,.int .u8 0,.int .u8 0,.int .u8 0,.int .u8 0,.int .u8 0,.int .u8 0,.int .u8 0,.int .u8 0,.int .u8 0,.int .u8 0,.int .u8 0,.int .u8 0,.int .u8 0,.int .u8 0,.int .u8 0,.int .u8 0,.int .u8 0,.int .u8 0,.int .u8 0,.int .u8 0,.int .u8 0,.int .u8 0,.int .u8 0,.int .u8 0,.int .u8 0,.int .u8 0,.int .u8 0,.int .u8 0])=.agg (arr .u8 32 fun i=> if i=0 then 1 else 0):=by rfl
theorem Ad (w:World):Calls Tryz.prog 11 #[] w fun e w'=> e=.returned (.bool true)∧Below w.heap.size w w':=by
 go_enter Tryz.func11,Tryz.ntmps11
 go_wp2_with fail
 refine (kD w).mono ?_
 rintro e w1 ⟨p,F,rfl,h1,b1⟩
 have H1:=Lib.hid h1
 have B1:=Lib.hid b1
 clear h1 b1
 go_wp2_with fail
 refine (nW H1.out 3 (by decide)).mono ?_
 rw [show gI ⟨[], []⟩ 3=(bD 0,0,TS.draw ⟨[], []⟩ 3) from rfl]
 rintro e w2 ⟨u,rfl,F2,h2,y2,c2,f2⟩
 have Y2:=Lib.hid y2.rd
 have B2:=Lib.hid (B1.out.trans (c2.below B1.out.size fun b hb=> H1.out.hi hb))
 obtain ⟨au,cu,eu,_⟩:=y2.rd
 subst eu
 clear h2 y2 c2 f2
 go_wp2_with fail
 rw [Af]
 refine (qH (fun i=> if i=0 then 1 else 0) (fun i _=> by split<;> decide) w2).mono ?_
 rintro e w3 ⟨p3,rfl,h3,b3⟩
 have H3:=Lib.hid h3
 have B3:=Lib.hid (B2.out.trans (b3.mono B2.out.size))
 have Y3:=Lib.hid (Y2.out.below b3)
 clear h3 b3
 go_wp2_with fail
 refine (vD (F:=fun _=> False) ⟨H3.out,fun _=> id⟩ 3 (by decide)).mono ?_
 rintro e w4 ⟨u4,rfl,F4,h4,y4,c4,f4⟩
 have Y4:=Lib.hid (Y3.out.Mv c4 fun _ _ _=> id)
 have B4:=Lib.hid (B3.out.trans (c4.jh.below (B:=w.heap.size) B3.out.size fun b hb=> hb.elim (fun e=> e▸Nat.le_trans B2.out.size H3.out.hp) False.elim))
 obtain ⟨a4,d4,e4,_⟩:=y4.rd
 have hl:(Su.draw (.by (fun i=> if i=0 then 1 else 0) 0) 3).1.length=32:=jc _ _
 have he:(Su.draw (.by (fun i=> if i=0 then 1 else 0) 0) 3).2.1=0:=rfl
 rw [hl] at e4
 rw [he]
 subst e4
 clear h4 y4 c4 f4 hl he
 rw [bN]
 have HS:=Lib.hid (fun (w5:World) (hb:Below w4.heap.size w4 w5) (hl:bg (fun _=> False) w5 (.slice (some ⟨w4.heap.size,0,none⟩) 9 9) (bD 0))=> wN _ _ 9 9 (bf (bD 0)) (bf (bD 0)) w5 (by have:=(Y4.out.below hb);rwa [bN] at this) (by have:=hl.rd;rwa [bN] at this))
 rw [show kF 9 (bf (bD 0)) 9 (bf (bD 0))=true from by unfold kF;rw [decide_eq_true rfl,lV];rfl] at HS
 go_wp2_with fail
 refine (HS.out _ ((Below.refl _ _).alloc (Nat.le_refl _) _) (uJ 5 (fun _ h=> h.elim) 0 (.inl rfl))).mono ?_
 rintro e w6 ⟨rfl,b6⟩
 have B6:=Lib.hid ((B4.out.alloc B4.out.size _).trans (b6.mono (by rw [World.size_alloc];have:=B4.out.size;omega)))
 clear b6
 go_wp2
 go_ret
 exact ⟨rfl,B6.out⟩
end Go.Proofs.YtpcjekgfnfjbpaaGreat
namespace Go.Proofs.YtpcjekgfnfjbpaaGreat
open Go.RowKit Go.aG Go.ChangeShapes Go.Maps
section
variable {S S' : TS} {a b x : List Int}
theorem zX (d:oz):(yY S d a b).2.2.l.length≤S.l.length+2:=by
 have one:∀k:Int,(dJ k S a).2.2.l.length≤S.l.length+2:=by
  intro k
  unfold dJ
  cases bA S a with
  | none=> simp
  | some n=> have:=(lG S (k,(n:Int),0)).1;simp only;omega
 have two:∀k:Int,(fQ k S a b).2.2.l.length≤S.l.length+2:=by
  intro k
  unfold fQ
  cases bA S a with
  | none=> simp
  | some n=>
   cases bA S b with
   | none=> simp
   | some m=>
    simp only
    split
    ·simp
    ·have:=(lG S (k,(n:Int),(m:Int))).1;simp only;omega
 unfold yY
 split
 ·unfold gI TS.draw
  split
  ·simp only;split<;> simp [qd]
  ·simp
 split
 ·exact one 2
 split
 ·exact one 3
 split
 ·exact two 4
 split
 ·exact two 5
 split
 ·exact one 6
 split
 ·exact one 7
 split
 ·unfold kE
  cases bA S a with
  | none=> simp
  | some n=> have h1:=(lG (S.text d.2.2.2) (8,(n:Int),fD S d.2.2.2)).1;have h2:=(gQ S d.2.2.2).1;simp only;omega
 split
 ·have h2:=(gQ S d.2.2.2).1;unfold mJ;simp only;omega
 ·have h1:=(lG (S.text d.2.2.2) (10,fD S d.2.2.2,0)).1;have h2:=(gQ S d.2.2.2).1;unfold gB;simp only;omega
end
end Go.Proofs.YtpcjekgfnfjbpaaGreat
namespace Go.Proofs.YtpcjekgfnfjbpaaGreat
open Go.RowKit Go.aG Go.ChangeShapes Go.Maps
attribute [local go_sem ↓] Go.wp_at_zero Go.wp_at_succ
structure tT (N:Nat) (w0:World) (p:Nat) (w:World) (vl:Value) (S:TS) (F:Nat→Prop) (T:List (List Int)) (tv:Nat→Value):Prop where
 su:fO N w p F S
 vs:yM F w vl T tv
 nl:∀b,vl.ownBlock=some b→¬ F b∧N≤b
 be:Below N w0 w
section
variable {N : Nat} {w w' w0 w1 w2 w3 : World} {p q : Nat} {F F' G G' : Nat → Prop} {S S' : TS} {s : Value} {v u v' vl jM : Value} {l l' a b t : List Int} {T : List (List Int)} {tv : Nat → Value} {r : TA}
theorem tT.hB (h:tT N w0 p w vl S F T tv):N≤w.heap.size:=Nat.le_trans (fO.Jo h.su).2 (Nat.le_of_lt (fO.Jo h.su).1)
theorem tT.below (h:tT N w0 p w vl S F T tv) (hb:Below w.heap.size w w'):tT N w0 p w' vl S F T tv:=⟨h.su.below hb,h.vs.below hb,h.nl,h.be.trans (hb.mono h.hB)⟩
theorem tT.step (h:tT N w0 p w vl S F T tv) (hr:fB N w p F u r w'):∃F',tT N w0 p w' vl r.2.2 F' T tv∧bg F' w' u r.1∧(∀v l,bg F w v l→bg F' w' v l):=by
 obtain ⟨F',h1,h2,h3,h4⟩:=hr
 refine ⟨F',⟨h1,⟨h.vs.os.jh h3 fun b hb hf=> (h.nl b hb).1 hf,fun j t ht=> (h.vs.bs j t ht).keep h3 (fun b hb=> hb) h4⟩,fun b hb=> ⟨fun hf=> (h4 b hf).elim (h.nl b hb).1 fun h'=> by have:=h.vs.os.m.lt b hb;omega,(h.nl b hb).2⟩,h.be.trans (h3.below h.hB fun b hb=> h.su.hi hb)⟩,h2,fun v l hv=> hv.keep h3 (fun b hb=> hb) h4⟩
theorem tT.app (h:tT N w0 p w vl S F T tv) (hu:bg F w u t) (ho:mW 23 1 w' jM (T.length+1) (jg T.length (fun j _=> tv j) (fun _ _=> u)))
  (hc:aZ (fun b=> vl.ownBlock=some b) w w') (hp:∀b,jM.ownBlock=some b→vl.ownBlock=some b∨w.heap.size≤b):tT N w0 p w' jM S F (T++ [t]) (fun j=> if j=T.length then u else tv j):=by
 have hk:∀{v:Value} {l:List Int},bg F w v l→bg F w' v l:=fun g=> ⟨g.ok,g.rd.zZ hc fun hn b hb hg=> (h.vs.os.z b hg).ne g.rd hn b hb rfl,g.off⟩
 refine ⟨h.su.keep hc fun b hb e=> (h.nl b e).1 hb,⟨?_,fun j s hs=> ?_⟩,fun b hb=> ?_,h.be.trans (hc.below h.hB fun b hb=> (h.nl b hb).2)⟩
 ·rw [List.length_append,List.length_singleton]
  refine ho.congr fun j hj i hi=> ?_
  by_cases hjl:j<T.length
  ·rw [lM hjl,if_neg (by omega)]
  ·obtain rfl:j=T.length:=by omega
   rw [pU,if_pos rfl]
 ·by_cases hj:j<T.length
  ·rw [List.getElem?_append_left hj] at hs
   rw [if_neg (by omega)];exact hk (h.vs.bs j s hs)
  ·have:=(List.getElem?_eq_some_iff.1 hs).1
   rw [List.length_append,List.length_singleton] at this
   obtain rfl:j=T.length:=by omega
   rw [List.getElem?_append_right (Nat.le_refl _),Nat.sub_self] at hs
   rw [if_pos rfl,←Option.some.inj hs];exact hk hu
 ·rcases hp b hb with h' | h'
  ·exact h.nl b h'
  ·exact ⟨fun hf=> by have:=h.su.lt hf;omega,Nat.le_trans h.hB h'⟩
theorem _root_.Go.aG.tV.below {L:List oz} (h:tV w v L) (hb:Below w.heap.size w w'):tV w' v L:=by
 obtain ⟨q,hq,hd⟩:=h
 exact ⟨q,hq.below hb,fun j d h=> (hd j d h).below hb⟩
end
end Go.Proofs.YtpcjekgfnfjbpaaGreat
namespace Go.Proofs.YtpcjekgfnfjbpaaGreat
open Go.RowKit Go.aG Go.ChangeShapes Go.Maps
attribute [local go_sem ↓] Go.wp_at_zero Go.wp_at_succ
section
variable {N : Nat} {w w' w0 w1 w2 w3 : World} {p q : Nat} {F F' G G' : Nat → Prop} {S S' : TS} {s : Value} {v u v' vl jM : Value} {l l' a b t : List Int} {T : List (List Int)} {tv : Nat → Value} {r : TA} {E : Int}
def nO (N:Nat) (w0:World) (p:Nat) (vl:Value) (S:TS) (T:List (List Int)) (tv:Nat→Value) (E:Int) (l:List Int) (w:World) (v:Value):Prop:=∃F u,v=.tuple #[u,.int .i64 E] ∧tT N w0 p w vl S F T tv∧bg F w u l
theorem nO.below (h:nO N w0 p vl S T tv E l w v) (hb:Below w.heap.size w w'):nO N w0 p vl S T tv E l w' v:=by
 obtain ⟨F,u,e,h1,h2⟩:=h;exact ⟨F,u,e,h1.below hb,h2.below hb⟩
def qg (N:Nat) (w0:World) (p:Nat) (vl:Value) (S:TS) (T:List (List Int)) (tv:Nat→Value) (l:List Int) (w:World) (v:Value):Prop:=∃F,tT N w0 p w vl S F T tv∧bg F w v l
theorem qg.below (h:qg N w0 p vl S T tv l w v) (hb:Below w.heap.size w w'):qg N w0 p vl S T tv l w' v:=by
 obtain ⟨F,h1,h2⟩:=h;exact ⟨F,h1.below hb,h2.below hb⟩
theorem lQ (w:World) (v:Value) (L:List oz) (h:tV w v L) (hok:∀(j:Nat) (d:oz),L[j]? =some d→zF d) (g:Nat→Int) (hg:∀i,i<3→jB (g i)) (y:Value) (X:List Int) (hy:Rd .u8 w y X.length (bf X)) (hX:okB X):
  Calls Tryz.prog 10 #[v,.agg (arr .i64 3 g),y] w fun e w'=> e=.returned (.bool true)∧Below w.heap.size w w':=by
 have HS:=Lib.hid h
 have kr:=Lib.hid hok
 have Oo:=Lib.hid hg
 have Kw:=Lib.hid hy
 have HXB:=Lib.hid hX
 obtain ⟨q,hq,hd⟩:=h
 obtain ⟨m,hm⟩:∃m,m=L.length:=⟨_,rfl⟩
 rw [←hm] at hq
 obtain ⟨av,cap,rfl,hcap,hcap2,hcell⟩:=hq
 obtain ⟨ay,cy,rfl,_⟩:=hy
 obtain ⟨A,hA⟩:∃A,A=Value.agg (arr .i64 3 g):=⟨_,rfl⟩
 rw [←hA]
 have NK:=Lib.hid hA
 have HD:=Lib.hid hd
 have HC:=Lib.hid hcell
 have HM:=Lib.hid hm
 clear hd hcell hm hok hg hX hA
 go_enter Tryz.func10,Tryz.ntmps10
 go_upto_region 1 with (fail)
 refine aD (fun w0=> aI .i64 w0 w.heap.size 3 g∧Below w.heap.size w w0) ?_ ?_
 ·rw [NK.out]
  exact ⟨aI.newAt rfl (by rfl),(Below.refl _ _).alloc (Nat.le_refl _) _⟩
 rintro w0 ⟨ha0,b0⟩
 have Dp:=Lib.hid ha0
 have B0:=Lib.hid b0
 obtain ⟨x4,hx4⟩:∃x,x=w.heap.size:=⟨_,rfl⟩
 rw [show (Value.pointer (some ⟨w.heap.size,0,none⟩))=.pointer (some ⟨x4,0,none⟩) by rw [hx4]]
 have Dp:Hid (aI .i64 w0 x4 3 g):=hx4▸Dp
 have Ol:=Lib.hid hx4
 clear ha0 b0 hx4
 go_wp2_with fail
 refine (Ad w0).mono ?_
 rintro e w1 ⟨rfl,b1⟩
 have B1:=Lib.hid (B0.out.trans (b1.mono B0.out.size))
 have HA1:=Lib.hid (Dp.out.kept b1)
 clear b1
 go_wp2_with fail
 refine (EA _ L w1 (HS.out.below B1.out)).mono ?_
 rintro e W2 ⟨r,rfl,hr,b2⟩
 have B2:=Lib.hid (B1.out.trans (b2.mono B1.out.size))
 have HA2:=Lib.hid (HA1.out.kept b2)
 clear b2
 cases r with
 | false=>
  go_wp2
  go_ret
  exact ⟨rfl,B2.out⟩
 | true=>
  have HF:=Lib.hid (hr rfl)
  clear hr
  by_cases hx1:100<X.length
  ·have q1:(100:Int)<(X.length:Int):=by omega
   clear hx1
   go_wp2
   go_ret
   exact ⟨rfl,B2.out⟩
  have q1:¬ (100:Int)<(X.length:Int):=by omega
  have Ah:Hid (X.length≤100):=Lib.hid (by omega)
  clear hx1
  go_wp2_with fail
  refine (kD W2).mono ?_
  rintro e w3 ⟨p,F,rfl,h3,b3⟩
  have B3:=Lib.hid (B2.out.trans (b3.mono B2.out.size))
  have H3:Hid (tT W2.heap.size W2 p w3 (.slice none 0 0) ⟨[], []⟩ F [] (fun _=> undef)):=Lib.hid ⟨h3,⟨mW.nil _ _ _ _,fun j t h=> by simp at h⟩,fun b hb=> (by cases hb),b3⟩
  clear h3 b3 q1
  go_wp2
  go_loopw [8,52] (fun vl i wr=> ∃k:Nat,k≤m∧i=.int .i64 (k:Int)∧∃S F T tv,tT W2.heap.size W2 p wr vl S F T tv∧S.l.length≤2 * k∧T.length≤k) (fun _ i _=> m - (intOf i).toNat)
  case atStart=> exact ⟨0,Nat.zero_le _,rfl,_,F, [],_,H3.out,Nat.le_refl _,Nat.le_refl _⟩
  case round=>
   obtain ⟨k,hk,rfl,S,F,T,tv,hI,hsl,htl⟩:=hrel
   have HI:=Lib.hid hI
   have HSL:=Lib.hid hsl
   have yZ:=Lib.hid htl
   have Gb:Hid (m≤20):=Lib.hid (HM.out▸HF.out.1)
   obtain ⟨al,cl,Mq,_⟩:=hI.vs.os.m.slice
   subst Mq
   have NI:=Lib.hid (B2.out.trans (hI.be.mono B2.out.size))
   clear hI hsl htl
   by_cases hlt:k<m
   case neg=>
    obtain rfl:k=m:=by omega
    clear hlt
    have IQ:=Lib.hid (HA2.out.kept HI.out.be)
    have ze:Hid (∀w',Below wr.heap.size wr w'→∀n:Int,Calls Tryz.prog 58 #[.slice al T.length cl,.int .i64 n] w' fun e wz=> ∃u,e=.returned u∧bg F wz u (aW T n)∧Below w'.heap.size w' wz):=Lib.hid fun w' hb n=> wV (HI.out.vs.below hb) (fun b hf=> Nat.lt_of_lt_of_le (HI.out.su.lt hf) hb.size) n
    go_upto_region 14 with (fail)
    refine aN (n:=283) (by kernel_rfl) (by kernel_rfl) (by kernel_rfl) rfl
     (fun ii vv ww=> (match ii with | 0 | 4=> vv=.slice al T.length cl | 1=> vv=.pointer (some ⟨x4,0,none⟩) | 2=> vv=.int .i64 (g 0) | 5=> vv=.pointer (some ⟨x4,1,none⟩) | 6=> vv=.int .i64 (g 1) | _=> True)∧(ii=3→bg F ww vv (aW T (g 0)))∧(ii=7→bg F ww vv (aW T (g 1)))∧(ii=8→bg F ww vv (aW T (g 0)))∧(ii=9→bg F ww vv (aW T (g 1))))
     (fun w w'=> Below w.heap.size w w') (fun _ _ h=> h) (fun i v w w' h hE=> ⟨h.1,fun e=> bg.below (h.2.1 e) hE,fun e=> bg.below (h.2.2.1 e) hE,fun e=> bg.below (h.2.2.2.1 e) hE,fun e=> bg.below (h.2.2.2.2 e) hE⟩) ?_ ?_
    ·refine Each.all ?_
     refine ⟨?_,?_,?_,?_,?_,?_,?_,?_,?_,?_,trivial⟩
     ·intro a w2 hB hF hd
      rw [if_pos (ah rfl)]
      exact aA _ (.inl rfl) (by simp) ⟨(hF.same 8 rfl),fun h=> absurd h (by decide),fun h=> absurd h (by decide),fun h=> absurd h (by decide),fun h=> absurd h (by decide)⟩
     ·intro a w2 hB hF hd
      rw [if_pos (ah rfl)]
      exact ak (fun h=> by cases h) (aC rfl (hF.same 4 rfl) rfl Tryz.underlying102 (by kernel_rfl) (by decide) (by decide)) ⟨rfl,fun h=> absurd h (by decide),fun h=> absurd h (by decide),fun h=> absurd h (by decide),fun h=> absurd h (by decide)⟩
     ·intro a w2 hB hF hd
      rw [if_pos (ah rfl)]
      exact ak (fun h=> by cases h) (aB rfl ((hd 1 _ rfl (aj rfl)).1) Tryz.underlying3 ((IQ.out.kept hB).cell 0 (by decide))) ⟨rfl,fun h=> absurd h (by decide),fun h=> absurd h (by decide),fun h=> absurd h (by decide),fun h=> absurd h (by decide)⟩
     ·intro a w2 hB hF hd
      rw [if_pos (ah rfl)]
      refine aJ _ _ _ rfl Tryz.call58 _ (args2 ((hd 0 _ rfl (aj rfl)).1) ((hd 2 _ rfl (aj rfl)).1)) (by simp) ((ze.out w2 hB _).mono ?_)
      rintro e w3 ⟨u,rfl,hr,hb⟩;exact ⟨u,rfl,⟨trivial,fun _=> hr,fun h=> absurd h (by decide),fun h=> absurd h (by decide),fun h=> absurd h (by decide)⟩,hb⟩
     ·intro a w2 hB hF hd
      rw [if_pos (ah rfl)]
      exact aA _ (.inl rfl) (by simp) ⟨(hF.same 8 rfl),fun h=> absurd h (by decide),fun h=> absurd h (by decide),fun h=> absurd h (by decide),fun h=> absurd h (by decide)⟩
     ·intro a w2 hB hF hd
      rw [if_pos (ah rfl)]
      exact ak (fun h=> by cases h) (aC rfl (hF.same 4 rfl) rfl Tryz.underlying102 (by kernel_rfl) (by decide) (by decide)) ⟨rfl,fun h=> absurd h (by decide),fun h=> absurd h (by decide),fun h=> absurd h (by decide),fun h=> absurd h (by decide)⟩
     ·intro a w2 hB hF hd
      rw [if_pos (ah rfl)]
      exact ak (fun h=> by cases h) (aB rfl ((hd 5 _ rfl (aj rfl)).1) Tryz.underlying3 ((IQ.out.kept hB).cell 1 (by decide))) ⟨rfl,fun h=> absurd h (by decide),fun h=> absurd h (by decide),fun h=> absurd h (by decide),fun h=> absurd h (by decide)⟩
     ·intro a w2 hB hF hd
      rw [if_pos (ah rfl)]
      refine aJ _ _ _ rfl Tryz.call58 _ (args2 ((hd 4 _ rfl (aj rfl)).1) ((hd 6 _ rfl (aj rfl)).1)) (by simp) ((ze.out w2 hB _).mono ?_)
      rintro e w3 ⟨u,rfl,hr,hb⟩;exact ⟨u,rfl,⟨trivial,fun h=> absurd h (by decide),fun _=> hr,fun h=> absurd h (by decide),fun h=> absurd h (by decide)⟩,hb⟩
     ·intro a w2 hB hF hd
      rw [if_pos (ah rfl)]
      exact aA _ (.inr rfl) (by simp) ⟨trivial,fun h=> absurd h (by decide),fun h=> absurd h (by decide),fun _=> ((hd 3 _ rfl (aj rfl)).2.1 rfl),fun h=> absurd h (by decide)⟩
     ·intro a w2 hB hF hd
      rw [if_pos (ah rfl)]
      exact aA _ (.inr rfl) (by simp) ⟨trivial,fun h=> absurd h (by decide),fun h=> absurd h (by decide),fun h=> absurd h (by decide),fun _=> ((hd 7 _ rfl (aj rfl)).2.2.1 rfl)⟩
    ·intro a w5 hB hF hS
     obtain ⟨x80,BN⟩:∃x,x=a.tmps.getD 80 undef:=⟨_,rfl⟩
     have MI:bg F w5 x80 (aW T (g 0)):=by rw [BN];exact (hS 3 _ rfl).2.1 rfl
     obtain ⟨x84,BM⟩:∃x,x=a.tmps.getD 84 undef:=⟨_,rfl⟩
     have MH:bg F w5 x84 (aW T (g 1)):=by rw [BM];exact (hS 7 _ rfl).2.2.1 rfl
     obtain ⟨Fv,vS⟩:∃x,x=a.tmps.getD 13 undef:=⟨_,rfl⟩
     have FR:bg F w5 Fv (aW T (g 0)):=by rw [vS];exact (hS 8 _ rfl).2.2.2.1 rfl
     obtain ⟨Je,Cb⟩:∃x,x=a.tmps.getD 14 undef:=⟨_,rfl⟩
     have FQ:bg F w5 Je (aW T (g 1)):=by rw [Cb];exact (hS 9 _ rfl).2.2.2.2 rfl
     have ha:=aH rfl rfl hF [_,_,_,x80,_,_,_,x84,Fv,Je] rfl ⟨(hS 0 _ rfl).1,(hS 1 _ rfl).1,(hS 2 _ rfl).1,BN.symm,(hS 4 _ rfl).1,(hS 5 _ rfl).1,(hS 6 _ rfl).1,BM.symm,vS.symm,Cb.symm,trivial⟩
     simp only [puts,Act.put,List.setIfInBounds_toArray,List.set_cons_succ,List.set_cons_zero] at ha
     subst ha
     clear BN BM vS Cb
     clear hS hF
     have I5:=Lib.hid (HI.out.below hB)
     obtain ⟨a,ha⟩:∃a,a=aW T (g 0):=⟨_,rfl⟩
     obtain ⟨b,hb⟩:∃b,b=aW T (g 1):=⟨_,rfl⟩
     rw [←ha] at FR
     rw [←hb] at FQ
     have A5:=Lib.hid FR
     have Y5:=Lib.hid FQ
     obtain ⟨a7,c7,e7,_⟩:=FR.rd
     subst e7
     obtain ⟨a8,c8,e8,_⟩:=FQ.rd
     subst e8
     have yP:Hid (S.l.length≤40):=Lib.hid (by have:=HSL.out;have:=Gb.out;omega)
     have CW:=Lib.hid (B2.out.trans (I5.out.be.mono B2.out.size))
     have X5:Hid (bg F w5 (.slice ay X.length cy) X):=Lib.hid ⟨HXB.out,Kw.out.below CW.out,fun hn c hc hf=> by have:=Kw.out.pW hn hc;have:=I5.out.su.hi hf;have:=B2.out.size;omega⟩
     clear hB FR FQ MI MH ha hb ze IQ
     go_wp2_with fail
     refine (dh I5.out.su A5.out (by have:=yP.out;omega)).mono ?_
     rintro e w6 ⟨rfl,b6⟩
     have B6:=Lib.hid b6
     clear b6
     go_wp2_with fail
     refine (dh (I5.out.su.below B6.out) (Y5.out.below B6.out) (by have:=yP.out;omega)).mono ?_
     rintro e w7 ⟨rfl,b7⟩
     have B7:=Lib.hid (B6.out.trans (b7.mono B6.out.size))
     clear b7
     obtain ⟨NA,Ht⟩:∃x,x=dF S a:=⟨_,rfl⟩
     obtain ⟨NB,Hr⟩:∃x,x=dF S b:=⟨_,rfl⟩
     rw [←Ht,←Hr]
     have KZ:=Lib.hid Ht
     have Ga:=Lib.hid Hr
     clear Ht Hr
     go_wp2_with fail
     refine (qC (I5.out.su.below B7.out) (A5.out.below B7.out) (Y5.out.below B7.out) (by have:=yP.out;omega)).mono ?_
     rintro e w8 ⟨ux,rfl,DV,b8⟩
     have B8:=Lib.hid (B7.out.trans (b8.mono B7.out.size))
     obtain ⟨⟨lx,ex⟩,He⟩:∃R:List Int × Int,R=dM S a b:=⟨_,rfl⟩
     rw [←He] at DV ⊢
     dsimp only at DV ⊢
     have FX:=Lib.hid He
     have MG:=Lib.hid DV
     obtain ⟨Oi,c19,e19,_⟩:=DV.rd
     subst e19
     clear DV b8 He
     go_wp2_with fail
     refine (qD (I5.out.su.below B8.out) (A5.out.below B8.out) (Y5.out.below B8.out) (by have:=yP.out;omega)).mono ?_
     rintro e w9 ⟨uy,rfl,DU,b9⟩
     have B9:=Lib.hid (B8.out.trans (b9.mono B8.out.size))
     have MF:=Lib.hid (MG.out.below b9)
     obtain ⟨⟨ly,ey⟩,GZ⟩:∃R:List Int × Int,R=dN S a b:=⟨_,rfl⟩
     rw [←GZ] at DU ⊢
     dsimp only at DU ⊢
     have FW:=Lib.hid GZ
     have ME:=Lib.hid DU
     obtain ⟨a21,c21,e21,_⟩:=DU.rd
     subst e21
     clear DU b9 GZ
     go_wp2_with fail
     refine (sF (I5.out.su.below B9.out) (A5.out.below B9.out) (X5.out.below B9.out) (Y5.out.below B9.out) (by have:=yP.out;omega)).mono ?_
     rintro e NT ⟨rfl,b10⟩
     obtain ⟨RG,Hf⟩:∃R,R=gD S a X b:=⟨_,rfl⟩
     rw [←Hf]
     have FY:=Lib.hid Hf
     have Ku:=Lib.hid (I5.out.below (B9.out.trans (b10.mono B9.out.size)))
     have Ie:=Lib.hid (MF.out.below b10)
     have Ib:=Lib.hid (ME.out.below b10)
     have Mx:=Lib.hid (X5.out.below (B9.out.trans (b10.mono B9.out.size)))
     have B10:=Lib.hid (CW.out.trans ((B9.out.trans (b10.mono B9.out.size)).mono CW.out.size))
     clear b10 Hf
     cases hna:bA S a with
     | none=>
      obtain rfl:NA=(0,false):=KZ.out.trans (by unfold dF;rw [hna])
      obtain ⟨rfl,rfl⟩:=Prod.mk.inj (show (lx,ex)=([],11) from FX.out.trans (by unfold dM;rw [hna]))
      obtain ⟨rfl,rfl⟩:=Prod.mk.inj (show (ly,ey)=([],11) from FW.out.trans (by unfold dN;rw [hna]))
      obtain rfl:RG=11:=FY.out.trans (by unfold gD;rw [hna])
      clear hna
      simp only [List.length_nil]
      go_wp2
      go_ret
      exact ⟨rfl,B10.out⟩
     | some n=>
      obtain rfl:NA=((n:Int),true):=KZ.out.trans (by unfold dF;rw [hna])
      cases hnb:bA S b with
      | none=>
       obtain rfl:NB=(0,false):=Ga.out.trans (by unfold dF;rw [hnb])
       obtain ⟨rfl,rfl⟩:=Prod.mk.inj (show (lx,ex)=([],11) from FX.out.trans (by unfold dM;rw [hna,hnb]))
       obtain ⟨rfl,rfl⟩:=Prod.mk.inj (show (ly,ey)=([],11) from FW.out.trans (by unfold dN;rw [hna,hnb]))
       obtain rfl:RG=11:=FY.out.trans (by unfold gD;rw [hna,hnb])
       clear hna hnb
       simp only [List.length_nil]
       go_wp2
       go_ret
       exact ⟨rfl,B10.out⟩
      | some m'=>
       obtain rfl:NB=((m':Int),true):=Ga.out.trans (by unfold dF;rw [hnb])
       have Nk:=Lib.hid (bV A5.out.ok hna)
       have IB:=Lib.hid (bV Y5.out.ok hnb)
       obtain ⟨⟨k1,k2,k3⟩,hkt⟩:∃z:Tm,z=bF S.l n:=⟨_,rfl⟩
       obtain ⟨⟨t1,t2,t3⟩,Cg⟩:∃z:Tm,z=bF S.l m':=⟨_,rfl⟩
       obtain ⟨⟨p1,p2,p3⟩,hpt⟩:∃z:Tm,z=(jG S t2).1:=⟨_,rfl⟩
       obtain ⟨pb,hpb⟩:∃z,z=(jG S t2).2:=⟨_,rfl⟩
       have Nr:Hid (S.l[n]? =some (k1,k2,k3)):=Lib.hid (hkt▸gP Nk.out)
       have KH:Hid (S.l[m']? =some (t1,t2,t3)):=Lib.hid (Cg▸gP IB.out)
       have EO:Hid ((lx,ex)=if t1=4∧p2=(n:Int) then (bD t3,(0:Int)) else ([],20)):=Lib.hid (FX.out.trans (by unfold dM kN;rw [hna,hnb];simp only;rw [←Cg];simp only;rw [←hpt]))
       have EL:Hid ((ly,ey)=if t1=5∧t2=(n:Int) then (bD t3,(0:Int)) else ([],20)):=Lib.hid (FW.out.trans (by unfold dN kN;rw [hna,hnb];simp only;rw [←Cg]))
       have zh:Hid (RG=if t1=8∧k1=3∧k2=t2∧bC S t3=(X,true) then 0 else 22):=Lib.hid (FY.out.trans (by unfold gD kN;rw [hna,hnb];simp only;rw [←Cg,←hkt]))
       have yQ:Hid (t1=4∨t1=5∨t1=8→∃j:Nat,t3=j∧j<S.l.length):=Lib.hid fun hk=> by
        obtain ⟨j,g1,g2⟩:=pE I5.out.su.ok IB.out (by unfold kN;rw [←Cg];exact hk)
        rw [←Cg] at g1
        exact ⟨j,g1,Nat.lt_trans g2 IB.out⟩
       have Iu:Hid (t1=8→(bC S t3).2=true):=Lib.hid fun hk=> by
        subst hk
        rcases I5.out.su.ok.ok m' _ KH.out with h | h | h | h | ⟨_,_,j,h1,_,h3⟩ | h | h
        ·exact absurd h.1 (by simp)
        ·exact absurd h.1 (by simp)
        ·exact absurd h.1 (by simp)
        ·exact absurd h.1 (by simp)
        ·simp only at h1
         unfold bC
         rw [if_pos (eH.2 ⟨j,h1,h3.choose,h3.choose_spec.1,.inr h3.choose_spec.2⟩)]
        ·exact absurd h.1 (by simp)
        ·exact absurd h.1 (by simp)
       clear hna hnb hkt Cg FX FW FY
       obtain ⟨qs,Oq,Eb,_⟩:=id Ku.out.su
       have HQ:=Lib.hid Eb
       clear Eb
       go_wp2_with fail
       refine (iQ HQ.out).mono ?_
       rintro e Ji ⟨rfl,rfl⟩
       go_wp2_with fail
       refine (gU HQ.out.st (n:Int)).mono ?_
       rw [jF Nr.out]
       rintro e CY ⟨rfl,b12⟩
       go_upto_region 23 with (fail)
       refine aD (fun Du=> Du.cell? ⟨CY.heap.size,0,none⟩=some (.int .i64 k1)∧Du.cell? ⟨CY.heap.size,1,none⟩=some (.int .i64 k2)∧Below Ji.heap.size Ji Du) ⟨cell_of_row _ _ 0 _ _ (0,0) (heap_alloc_new CY _),cell_of_row _ _ 1 _ _ (0,0) (heap_alloc_new CY _),b12.alloc b12.size _⟩ ?_
       rintro Du ⟨d0,d1,b13⟩
       have D0:=Lib.hid d0
       have D1:=Lib.hid d1
       have yO:Hid (CY.heap.size<Du.heap.size):=Lib.hid (World.block_lt_of_cell? _ _ d0)
       have Gl:=Lib.hid b13
       obtain ⟨x24,hx24⟩:∃x,x=CY.heap.size:=⟨_,rfl⟩
       rw [←hx24] at D0 D1 yO ⊢
       clear b12 b13 d0 d1 hx24
       have CG:=Lib.hid (HQ.out.below Gl.out)
       go_wp2_with fail
       refine (iQ CG.out).mono ?_
       rintro e Jh ⟨rfl,rfl⟩
       go_wp2_with fail
       refine (gU CG.out.st (m':Int)).mono ?_
       rw [jF KH.out]
       rintro e Am ⟨rfl,b15⟩
       go_upto_region 24 with (fail)
       refine aD (fun w16=> w16.cell? ⟨Am.heap.size,0,none⟩=some (.int .i64 t1)∧w16.cell? ⟨Am.heap.size,1,none⟩=some (.int .i64 t2)∧w16.cell? ⟨Am.heap.size,2,none⟩=some (.int .i64 t3)∧Below Jh.heap.size Jh w16) ⟨cell_of_row _ _ 0 _ _ (0,0) (heap_alloc_new Am _),cell_of_row _ _ 1 _ _ (0,0) (heap_alloc_new Am _),cell_of_row _ _ 2 _ _ (0,0) (heap_alloc_new Am _),b15.alloc b15.size _⟩ ?_
       rintro w16 ⟨f0,f1,f2,b16⟩
       have F0:=Lib.hid f0
       have F1:=Lib.hid f1
       have F2:=Lib.hid f2
       have tY:Hid (Am.heap.size<w16.heap.size):=Lib.hid (World.block_lt_of_cell? _ _ f0)
       have IX:=Lib.hid b16
       have D0':Hid (w16.cell? ⟨x24,0,none⟩=some (.int .i64 k1)):=Lib.hid ((b16.cell (p:=⟨x24,0,none⟩) yO.out).trans D0.out)
       have D1':Hid (w16.cell? ⟨x24,1,none⟩=some (.int .i64 k2)):=Lib.hid ((b16.cell (p:=⟨x24,1,none⟩) yO.out).trans D1.out)
       have AQ:Hid (x24<w16.heap.size):=Lib.hid (Nat.lt_of_lt_of_le yO.out b16.size)
       obtain ⟨yU,DL⟩:∃x,x=Am.heap.size:=⟨_,rfl⟩
       rw [←DL] at F0 F1 F2 tY ⊢
       clear b15 b16 f0 f1 f2 DL D0 D1 yO
       have CF:=Lib.hid (CG.out.below IX.out)
       have HST:Hid (∀w',Below w16.heap.size w16 w'→Calls Tryz.prog 27 #[.pointer (some ⟨p,0,none⟩)] w' fun e wz=> e=.returned (.pointer (some ⟨qs,0,none⟩))∧Below w'.heap.size w' wz):=Lib.hid fun w' hb=> (iQ (CF.out.below hb)).mono (by rintro e wz ⟨rfl,rfl⟩;exact ⟨rfl,Below.refl _ _⟩)
       have Nv:Hid (∀w',Below w16.heap.size w16 w'→Calls Tryz.prog 61 #[.pointer (some ⟨qs,0,none⟩),.int .i64 t2] w' fun e wz=> e=.returned (.tuple #[.agg (arr .i64 3 (tf (p1,p2,p3))),.bool pb])∧Below w'.heap.size w' wz):=Lib.hid fun w' hb=> by
        have:=gU (CF.out.st.below hb) t2
        rw [←hpt,←hpb] at this
        exact this
       have Gh:Hid (∀w',Below w16.heap.size w16 w'→∀n:Int,Calls Tryz.prog 62 #[.pointer (some ⟨qs,0,none⟩),.int .i64 n] w' fun e wz=> ∃x,e=.returned x∧(∃y,x=.tuple #[y,.bool (bC S n).2] ∧Rd .u8 wz y (bC S n).1.length (bf (bC S n).1))∧Below w'.heap.size w' wz):=Lib.hid fun w' hb n=> by
        refine (lY (CF.out.st.below hb) n (by have:=yP.out;omega) (by have:=qx I5.out.su.ok;have:=yP.out;omega)).mono ?_
        rintro e wz ⟨y,rfl,hy,b⟩
        exact ⟨_,rfl,⟨y,rfl,hy⟩,b⟩
       clear hpt hpb
       refine eX (n:=283) (by kernel_rfl) (by kernel_rfl) (by kernel_rfl) rfl
        (qX [(9,8)]) (jw [(9,8)]) (fun _=> arr .i64 3 (tf (0,0,0))) (fun _=> (arr .i64 3 (tf (p1,p2,p3)))) (fun _=> 96) (fun _=> 28)
        (fun ii vv _=> (match ii with | 0=> vv=.pointer (some ⟨p,0,none⟩) | 1=> vv=.pointer (some ⟨qs,0,none⟩) | 2=> vv=.pointer (some ⟨yU,1,none⟩) | 3=> vv=.int .i64 (t2) | 4 | 5=> vv=.tuple #[.agg (arr .i64 3 (tf (p1,p2,p3))),.bool pb] | 6=> vv=.agg (arr .i64 3 (tf (p1,p2,p3))) | 7 | 10=> vv=.bool pb | _=> True)) (fun _ _=> True) (fun _ _ _=> trivial) (fun _ _ _ _ _ _ _=> trivial) (fun _ _ _ _ h _=> h)
        (ug rfl) (oI rfl) ?_ ?_ ?_ ?_
       ·refine Each.all ?_
        refine ⟨?_,?_,?_,?_,?_,?_,?_,?_,(fun h=> by cases h),(fun _ h=> by cases h),?_,trivial⟩
        ·intro _ _ a w2 hB hF hd
         rw [if_pos (ah rfl)]
         exact aA _ (.inl rfl) (by simp) (hF.same 7 rfl)
        ·intro _ _ a w2 hB hF hd
         rw [if_pos (ah rfl)]
         refine aJ _ _ _ rfl Tryz.call27 _ (args1 (hd 0 _ rfl rfl rfl (aj rfl))) (by simp) ((HST.out w2 hB).mono ?_)
         rintro e w3 ⟨rfl,hb⟩;exact ⟨_,rfl,rfl,hb⟩
        ·intro _ _ a w2 hB hF hd
         rw [if_pos (ah rfl)]
         refine ak (fun h=> by cases h) (bq (m:=0) (k:=1) rfl (hF.same 26 rfl) (by kernel_rfl)) ?_
         exact rfl
        ·intro _ _ a w2 hB hF hd
         rw [if_pos (ah rfl)]
         exact ak (fun h=> by cases h) (aB rfl (hd 2 _ rfl rfl rfl (aj rfl)) Tryz.underlying3 ((hB.cell (p:=⟨yU,1,none⟩) tY.out).trans F1.out)) rfl
        ·intro _ _ a w2 hB hF hd
         rw [if_pos (ah rfl)]
         refine aJ _ _ _ rfl Tryz.call61 _ (args2 (hd 1 _ rfl rfl rfl (aj rfl)) (hd 3 _ rfl rfl rfl (aj rfl))) (by simp) ((Nv.out w2 hB).mono ?_)
         rintro e w3 ⟨rfl,hb⟩;exact ⟨_,rfl,rfl,hb⟩
        ·intro _ _ a w2 hB hF hd
         rw [if_pos (ah rfl)]
         exact aA _ (.inl rfl) (by simp) (hd 4 _ rfl rfl rfl (aj rfl))
        ·intro _ _ a w2 hB hF hd
         rw [if_pos (ah rfl)]
         exact ak (fun h=> by cases h) (aV rfl (hd 5 _ rfl rfl rfl (aj rfl)) rfl) rfl
        ·intro _ _ a w2 hB hF hd
         rw [if_pos (ah rfl)]
         exact ak (fun h=> by cases h) (aV rfl (hd 5 _ rfl rfl rfl (aj rfl)) rfl) rfl
        ·intro _ _ a w2 hB hF hd
         rw [if_pos (ah rfl)]
         exact aA _ (.inr rfl) (by simp) (hd 7 _ rfl rfl rfl (aj rfl))
       ·refine Each.all ?_
        refine ⟨(fun h=> by cases h),(fun h=> by cases h),(fun h=> by cases h),(fun h=> by cases h),(fun h=> by cases h),(fun h=> by cases h),(fun h=> by cases h),(fun h=> by cases h),?_,(fun h=> by cases h),(fun h=> by cases h),trivial⟩
        ·exact fun _=> ⟨rfl,rfl,fun a w2 K h=> eP rfl rfl Tryz.zeroValue96 (by simp) h⟩
       ·refine Each.all ?_
        refine ⟨(fun _ h=> by cases h),(fun _ h=> by cases h),(fun _ h=> by cases h),(fun _ h=> by cases h),(fun _ h=> by cases h),(fun _ h=> by cases h),(fun _ h=> by cases h),(fun _ h=> by cases h),(fun _ h=> by cases h),?_,(fun _ h=> by cases h),trivial⟩
        ·intro p hp
         obtain rfl:8=p:=Option.some.inj hp
         exact ⟨rfl,rfl,⟨_,rfl⟩,aj rfl,fun a w2 b K hB hF hd hx hb h=> iw rfl rfl Tryz.size96 hx (hd 6 _ rfl rfl rfl (aj rfl)) hb h⟩
       ·intro a Al blk hB hF hS hv hfin rC
        obtain ⟨v8,Lu,Ls⟩:=hv 8 _ rfl rfl
        have ha:=aH rfl rfl hF [_,_,_,_,_,_,_,_,_,undef,_] rfl ⟨hS 0 _ rfl rfl rfl,hS 1 _ rfl rfl rfl,hS 2 _ rfl rfl rfl,hS 3 _ rfl rfl rfl,hS 4 _ rfl rfl rfl,hS 5 _ rfl rfl rfl,hS 6 _ rfl rfl rfl,hS 7 _ rfl rfl rfl,v8,trivial,hS 10 _ rfl rfl rfl,trivial⟩
        have f8:=hfin 9 _ 8 rfl rfl
        simp only [puts,Act.put,List.setIfInBounds_toArray,List.set_cons_succ,List.set_cons_zero] at ha
        subst ha
        have V8:aI .i64 Al (blk 8) 3 (tf (p1,p2,p3)):=⟨_,f8⟩
        clear hS hv hfin rC hF v8 f8
        have EI:=V8.cell 1 (by decide)
        have hz1:tf (p1,p2,p3) 1=p2:=rfl
        rw [hz1] at EI
        obtain ⟨x28,hx28⟩:∃x,x=blk 8:=⟨_,rfl⟩
        rw [←hx28] at EI ⊢
        have G1:=Lib.hid EI
        have Ij:Hid (x28<Al.heap.size):=Lib.hid (World.block_lt_of_cell? _ _ EI)
        have AY:=Lib.hid hB
        clear hB EI V8 Lu Ls hx28 hz1
        go_upto_region 25 with (fail)
        have HST:Hid (∀w',Below Al.heap.size Al w'→Calls Tryz.prog 27 #[.pointer (some ⟨p,0,none⟩)] w' fun e wz=> e=.returned (.pointer (some ⟨qs,0,none⟩))∧Below w'.heap.size w' wz):=Lib.hid fun w' hb=> HST.out w' (AY.out.trans (hb.mono AY.out.size))
        have Gh:Hid (∀w',Below Al.heap.size Al w'→∀n:Int,Calls Tryz.prog 62 #[.pointer (some ⟨qs,0,none⟩),.int .i64 n] w' fun e wz=> ∃x,e=.returned x∧(∃y,x=.tuple #[y,.bool (bC S n).2] ∧Rd .u8 wz y (bC S n).1.length (bf (bC S n).1))∧Below w'.heap.size w' wz):=Lib.hid fun w' hb=> Gh.out w' (AY.out.trans (hb.mono AY.out.size))
        have NM:Hid (Al.cell? ⟨yU,2,none⟩=some (.int .i64 t3)):=Lib.hid ((AY.out.cell (p:=⟨yU,2,none⟩) tY.out).trans F2.out)
        have EN:Hid (yU<Al.heap.size):=Lib.hid (Nat.lt_of_lt_of_le tY.out AY.out.size)
        refine aN (n:=283) (by kernel_rfl) (by kernel_rfl) (by kernel_rfl) rfl
         (fun ii vv ww=> (match ii with | 0=> vv=.pointer (some ⟨p,0,none⟩) | 1=> vv=.pointer (some ⟨qs,0,none⟩) | 2=> vv=.pointer (some ⟨yU,2,none⟩) | 3=> vv=.int .i64 (t3) | 7 | 9=> vv=.bool ((bC S t3).2) | _=> True)∧(ii=4→∃y,vv=.tuple #[y,.bool (bC S t3).2] ∧Rd .u8 ww y (bC S t3).1.length (bf (bC S t3).1))∧(ii=5→∃y,vv=.tuple #[y,.bool (bC S t3).2] ∧Rd .u8 ww y (bC S t3).1.length (bf (bC S t3).1))∧(ii=6→Rd .u8 ww vv (bC S t3).1.length (bf (bC S t3).1))∧(ii=8→Rd .u8 ww vv (bC S t3).1.length (bf (bC S t3).1)))
         (fun w w'=> Below w.heap.size w w') (fun _ _ h=> h) (fun i v w w' h hE=> ⟨h.1,fun e=> fT (h.2.1 e) hE,fun e=> fT (h.2.2.1 e) hE,fun e=> Rd.below (h.2.2.2.1 e) hE,fun e=> Rd.below (h.2.2.2.2 e) hE⟩) ?_ ?_
        ·refine Each.all ?_
         refine ⟨?_,?_,?_,?_,?_,?_,?_,?_,?_,?_,trivial⟩
         ·intro a w2 hB hF hd
          rw [if_pos (ah rfl)]
          exact aA _ (.inl rfl) (by simp) ⟨(hF.same 7 rfl),fun h=> absurd h (by decide),fun h=> absurd h (by decide),fun h=> absurd h (by decide),fun h=> absurd h (by decide)⟩
         ·intro a w2 hB hF hd
          rw [if_pos (ah rfl)]
          refine aJ _ _ _ rfl Tryz.call27 _ (args1 ((hd 0 _ rfl (aj rfl)).1)) (by simp) ((HST.out w2 hB).mono ?_)
          rintro e w3 ⟨rfl,hb⟩;exact ⟨_,rfl,⟨rfl,fun h=> absurd h (by decide),fun h=> absurd h (by decide),fun h=> absurd h (by decide),fun h=> absurd h (by decide)⟩,hb⟩
         ·intro a w2 hB hF hd
          rw [if_pos (ah rfl)]
          refine ak (fun h=> by cases h) (bq (m:=0) (k:=2) rfl (hF.same 26 rfl) (by kernel_rfl)) ?_
          exact ⟨rfl,fun h=> absurd h (by decide),fun h=> absurd h (by decide),fun h=> absurd h (by decide),fun h=> absurd h (by decide)⟩
         ·intro a w2 hB hF hd
          rw [if_pos (ah rfl)]
          exact ak (fun h=> by cases h) (aB rfl ((hd 2 _ rfl (aj rfl)).1) Tryz.underlying3 ((hB.cell (p:=⟨yU,2,none⟩) EN.out).trans NM.out)) ⟨rfl,fun h=> absurd h (by decide),fun h=> absurd h (by decide),fun h=> absurd h (by decide),fun h=> absurd h (by decide)⟩
         ·intro a w2 hB hF hd
          rw [if_pos (ah rfl)]
          refine aJ _ _ _ rfl Tryz.call62 _ (args2 ((hd 1 _ rfl (aj rfl)).1) ((hd 3 _ rfl (aj rfl)).1)) (by simp) ((Gh.out w2 hB _).mono ?_)
          rintro e w3 ⟨u,rfl,hr,hb⟩;exact ⟨u,rfl,⟨trivial,fun _=> hr,fun h=> absurd h (by decide),fun h=> absurd h (by decide),fun h=> absurd h (by decide)⟩,hb⟩
         ·intro a w2 hB hF hd
          rw [if_pos (ah rfl)]
          exact aA _ (.inl rfl) (by simp) ⟨trivial,fun h=> absurd h (by decide),fun _=> ((hd 4 _ rfl (aj rfl)).2.1 rfl),fun h=> absurd h (by decide),fun h=> absurd h (by decide)⟩
         ·intro a w2 hB hF hd
          rw [if_pos (ah rfl)]
          obtain ⟨u_,yw,Au⟩:=((hd 5 _ rfl (aj rfl)).2.2.1 rfl)
          exact ak (fun h=> by cases h) (aV rfl yw rfl) ⟨trivial,fun h=> absurd h (by decide),fun h=> absurd h (by decide),fun _=> (Au),fun h=> absurd h (by decide)⟩
         ·intro a w2 hB hF hd
          rw [if_pos (ah rfl)]
          obtain ⟨u_,yw,Au⟩:=((hd 5 _ rfl (aj rfl)).2.2.1 rfl)
          exact ak (fun h=> by cases h) (aV rfl yw rfl) ⟨rfl,fun h=> absurd h (by decide),fun h=> absurd h (by decide),fun h=> absurd h (by decide),fun h=> absurd h (by decide)⟩
         ·intro a w2 hB hF hd
          rw [if_pos (ah rfl)]
          exact aA _ (.inr rfl) (by simp) ⟨trivial,fun h=> absurd h (by decide),fun h=> absurd h (by decide),fun h=> absurd h (by decide),fun _=> ((hd 6 _ rfl (aj rfl)).2.2.2.1 rfl)⟩
         ·intro a w2 hB hF hd
          rw [if_pos (ah rfl)]
          exact aA _ (.inr rfl) (by simp) ⟨((hd 7 _ rfl (aj rfl)).1),fun h=> absurd h (by decide),fun h=> absurd h (by decide),fun h=> absurd h (by decide),fun h=> absurd h (by decide)⟩
        ·intro a Fw hB hF hS
         obtain ⟨x167,hx167⟩:∃x,x=a.tmps.getD 167 undef:=⟨_,rfl⟩
         have MS:∃y,x167=.tuple #[y,.bool (bC S t3).2] ∧Rd .u8 Fw y (bC S t3).1.length (bf (bC S t3).1):=by rw [hx167];exact (hS 4 _ rfl).2.1 rfl
         obtain ⟨Dr,xQ⟩:∃x,x=a.tmps.getD 162 undef:=⟨_,rfl⟩
         have Ii:∃y,Dr=.tuple #[y,.bool (bC S t3).2] ∧Rd .u8 Fw y (bC S t3).1.length (bf (bC S t3).1):=by rw [xQ];exact (hS 5 _ rfl).2.2.1 rfl
         obtain ⟨x168,hx168⟩:∃x,x=a.tmps.getD 168 undef:=⟨_,rfl⟩
         have Ih:Rd .u8 Fw x168 (bC S t3).1.length (bf (bC S t3).1):=by rw [hx168];exact (hS 6 _ rfl).2.2.2.1 rfl
         obtain ⟨x30,BZ⟩:∃x,x=a.tmps.getD 30 undef:=⟨_,rfl⟩
         have Kn:Rd .u8 Fw x30 (bC S t3).1.length (bf (bC S t3).1):=by rw [BZ];exact (hS 8 _ rfl).2.2.2.2 rfl
         have ha:=aH rfl rfl hF [_,_,_,_,x167,Dr,x168,_,x30,_] rfl ⟨(hS 0 _ rfl).1,(hS 1 _ rfl).1,(hS 2 _ rfl).1,(hS 3 _ rfl).1,hx167.symm,xQ.symm,hx168.symm,(hS 7 _ rfl).1,BZ.symm,(hS 9 _ rfl).1,trivial⟩
         simp only [puts,Act.put,List.setIfInBounds_toArray,List.set_cons_succ,List.set_cons_zero] at ha
         subst ha
         clear hx167 xQ hx168 BZ
         clear hS hF
         have IW:=Lib.hid (AY.out.trans (hB.mono AY.out.size))
         have Lj:=Lib.hid hB
         have CK:=Lib.hid Kn
         obtain ⟨sg,hsg⟩:∃z,z=(bC S t3).1:=⟨_,rfl⟩
         obtain ⟨sb,hsb⟩:∃z,z=(bC S t3).2:=⟨_,rfl⟩
         rw [←hsg] at CK
         rw [←hsb]
         have KI:Hid (bC S t3=(sg,sb)):=Lib.hid (by rw [hsg,hsb])
         obtain ⟨a30,Oh,e30,_⟩:=id CK.out
         subst e30
         clear hB Kn Ii Ih HST Gh hsg hsb
         have BB:=Lib.hid ((Gl.out.trans (IX.out.mono Gl.out.size)).trans (IW.out.mono (Nat.le_trans Gl.out.size IX.out.size)))
         have Kt:=Lib.hid (Ku.out.below BB.out)
         have Ic:=Lib.hid (Ie.out.below BB.out)
         have Ia:=Lib.hid (Ib.out.below BB.out)
         have Mw:=Lib.hid (Mx.out.below BB.out)
         go_wp2_with fail
         refine (dh Kt.out.su Ic.out (by have:=yP.out;omega)).mono ?_
         rintro e NS ⟨rfl,b19⟩
         have Gj:=Lib.hid b19
         clear b19
         go_wp2_with fail
         refine (dh (Kt.out.su.below Gj.out) (Ia.out.below Gj.out) (by have:=yP.out;omega)).mono ?_
         rintro e Jg ⟨rfl,b20⟩
         have Fu:=Lib.hid (Gj.out.trans (b20.mono Gj.out.size))
         clear b20
         obtain ⟨NX,Hq⟩:∃x,x=dF S lx:=⟨_,rfl⟩
         obtain ⟨NY,Ho⟩:∃x,x=dF S ly:=⟨_,rfl⟩
         rw [←Hq,←Ho]
         have EW:=Lib.hid Hq
         have EU:=Lib.hid Ho
         clear Hq Ho
         have h6:Below w16.heap.size w16 Jg:=IW.out.trans (Fu.out.mono IW.out.size)
         have c0:=(h6.cell (p:=⟨x24,0,none⟩) AQ.out).trans D0'.out
         have c1:=(h6.cell (p:=⟨x24,1,none⟩) AQ.out).trans D1'.out
         have e0:=(h6.cell (p:=⟨yU,0,none⟩) tY.out).trans F0.out
         have e1:=(h6.cell (p:=⟨yU,1,none⟩) tY.out).trans F1.out
         have e2:=(h6.cell (p:=⟨yU,2,none⟩) tY.out).trans F2.out
         have g1:=((Lj.out.trans (Fu.out.mono Lj.out.size)).cell (p:=⟨x28,1,none⟩) Ij.out).trans G1.out
         have Ak:=Lib.hid (B10.out.trans ((BB.out.trans (Fu.out.mono BB.out.size)).mono B10.out.size))
         have Nb:=Lib.hid (wN _ _ sg.length X.length (bf sg) (bf X) Jg (CK.out.below Fu.out) (Mw.out.below Fu.out).rd)
         clear h6
         by_cases h4:t1=4
         ·subst h4
          obtain ⟨rfl,rfl⟩:=Prod.mk.inj (show (ly,ey)=([],20) from EL.out.trans (if_neg (fun h=> absurd h.1 (by decide))))
          obtain rfl:NY=(0,false):=EU.out.trans (by unfold dF;rw [dS])
          obtain rfl:RG=22:=zh.out.trans (if_neg (fun h=> absurd h.1 (by decide)))
          by_cases hp:p2=(n:Int)
          ·as_aux_lemma=>
            obtain ⟨j,rfl,hj⟩:=yQ.out (.inl rfl)
            obtain ⟨rfl,rfl⟩:=Prod.mk.inj (show (lx,ex)=(bD (j:Int),0) from EO.out.trans (if_pos ⟨rfl,hp⟩))
            obtain rfl:NX=((j:Int),true):=EW.out.trans (by unfold dF;rw [oo hj (by have:=yP.out;omega)])
            have q1:(p2==(n:Int))=true:=by simpa using hp
            clear hp c0 c1
            simp only [bN,List.length_nil]
            go_wp2
            go_ret
            exact ⟨rfl,Ak.out⟩
          ·as_aux_lemma=>
            obtain ⟨rfl,rfl⟩:=Prod.mk.inj (show (lx,ex)=([],20) from EO.out.trans (if_neg (fun h=> hp h.2)))
            obtain rfl:NX=(0,false):=EW.out.trans (by unfold dF;rw [dS])
            have q1:(p2==(n:Int))=false:=by simpa using hp
            clear hp c0 c1
            simp only [List.length_nil]
            go_wp2
            go_ret
            exact ⟨rfl,Ak.out⟩
         by_cases h5:t1=5
         ·clear h4
          subst h5
          obtain ⟨rfl,rfl⟩:=Prod.mk.inj (show (lx,ex)=([],20) from EO.out.trans (if_neg (fun h=> absurd h.1 (by decide))))
          obtain rfl:NX=(0,false):=EW.out.trans (by unfold dF;rw [dS])
          obtain rfl:RG=22:=zh.out.trans (if_neg (fun h=> absurd h.1 (by decide)))
          by_cases hp:t2=(n:Int)
          ·as_aux_lemma=>
            obtain ⟨j,rfl,hj⟩:=yQ.out (.inr (.inl rfl))
            obtain ⟨rfl,rfl⟩:=Prod.mk.inj (show (ly,ey)=(bD (j:Int),0) from EL.out.trans (if_pos ⟨rfl,hp⟩))
            obtain rfl:NY=((j:Int),true):=EU.out.trans (by unfold dF;rw [oo hj (by have:=yP.out;omega)])
            have q1:(t2==(n:Int))=true:=by simpa using hp
            clear hp c0 c1 g1
            simp only [bN,List.length_nil]
            go_wp2
            go_ret
            exact ⟨rfl,Ak.out⟩
          ·as_aux_lemma=>
            obtain ⟨rfl,rfl⟩:=Prod.mk.inj (show (ly,ey)=([],20) from EL.out.trans (if_neg (fun h=> hp h.2)))
            obtain rfl:NY=(0,false):=EU.out.trans (by unfold dF;rw [dS])
            have q1:(t2==(n:Int))=false:=by simpa using hp
            clear hp c0 c1 g1
            simp only [List.length_nil]
            go_wp2
            go_ret
            exact ⟨rfl,Ak.out⟩
         by_cases h8:t1=8
         ·clear h4 h5
          subst h8
          obtain ⟨rfl,rfl⟩:=Prod.mk.inj (show (lx,ex)=([],20) from EO.out.trans (if_neg (fun h=> absurd h.1 (by decide))))
          obtain rfl:NX=(0,false):=EW.out.trans (by unfold dF;rw [dS])
          obtain ⟨rfl,rfl⟩:=Prod.mk.inj (show (ly,ey)=([],20) from EL.out.trans (if_neg (fun h=> absurd h.1 (by decide))))
          obtain rfl:NY=(0,false):=EU.out.trans (by unfold dF;rw [dS])
          obtain rfl:sb=true:=by have:=Iu.out rfl;rw [KI.out] at this;exact this
          by_cases hk3:k1=3
          ·have q1:(k1==3)=true:=by simpa using hk3
           by_cases hk2:k2=t2
           ·as_aux_lemma=>
             have q2:(k2==t2)=true:=by simpa using hk2
             have hg0:RG=if sg=X then 0 else 22:=by
              rw [zh.out,KI.out]
              by_cases hs:sg=X
              ·rw [if_pos hs,if_pos ⟨rfl,hk3,hk2,by rw [hs]⟩]
              ·rw [if_neg hs,if_neg fun h=> hs (congrArg Prod.fst h.2.2.2)]
             have hg:=Lib.hid hg0
             clear hk3 hk2 g1 e2 hg0
             simp only [List.length_nil]
             go_wp2_with fail
             refine Nb.out.mono ?_
             rintro e NR ⟨rfl,Kj⟩
             have Lm:=Lib.hid (Ak.out.trans (Kj.mono Ak.out.size))
             clear Kj
             by_cases hs:sg=X
             ·rw [gG.2 hs]
              obtain rfl:RG=0:=hg.out.trans (if_pos hs)
              clear hs hg
              go_wp2
              go_ret
              exact ⟨rfl,Lm.out⟩
             ·rw [Bool.eq_false_iff.2 fun h=> hs (gG.1 h)]
              obtain rfl:RG=22:=hg.out.trans (if_neg hs)
              clear hs hg
              go_wp2
              go_ret
              exact ⟨rfl,Lm.out⟩
           ·as_aux_lemma=>
             have q2:(k2==t2)=false:=by simpa using hk2
             obtain rfl:RG=22:=zh.out.trans (if_neg (fun h=> hk2 h.2.2.1))
             clear hk3 hk2 g1 e2
             simp only [List.length_nil]
             go_wp2
             go_ret
             exact ⟨rfl,Ak.out⟩
          ·as_aux_lemma=>
            have q1:(k1==3)=false:=by simpa using hk3
            obtain rfl:RG=22:=zh.out.trans (if_neg (fun h=> hk3 h.2.1))
            clear hk3 g1 e2 c1
            simp only [List.length_nil]
            go_wp2
            go_ret
            exact ⟨rfl,Ak.out⟩
         obtain ⟨rfl,rfl⟩:=Prod.mk.inj (show (lx,ex)=([],20) from EO.out.trans (if_neg (fun h=> h4 h.1)))
         obtain rfl:NX=(0,false):=EW.out.trans (by unfold dF;rw [dS])
         obtain ⟨rfl,rfl⟩:=Prod.mk.inj (show (ly,ey)=([],20) from EL.out.trans (if_neg (fun h=> h5 h.1)))
         obtain rfl:NY=(0,false):=EU.out.trans (by unfold dF;rw [dS])
         obtain rfl:RG=22:=zh.out.trans (if_neg (fun h=> h8 h.1))
         as_aux_lemma=>
          have q4:(t1==4)=false:=by simpa using h4
          have q5:(t1==5)=false:=by simpa using h5
          have q8:(t1==8)=false:=by simpa using h8
          clear h4 h5 h8 g1 e2 c0 c1 e1
          simp only [List.length_nil]
          go_wp2
          go_ret
          exact ⟨rfl,Ak.out⟩
   obtain ⟨bb,o,rfl,hbl,hcc⟩:=HC.out (by omega)
   have Gd:Hid (∀i,i<4→wr.cell? ⟨bb,o+k * 4+i,none⟩=some (q k i)):=fun i hi=> (NI.out.cell (p:=⟨bb,o+k * 4+i,none⟩) hbl).trans (hcc k hlt i hi)
   obtain ⟨d,hd⟩:∃d,L[k]? =some d:=⟨_,List.getElem?_eq_getElem (by rw [←HM.out];exact hlt)⟩
   have za:=Lib.hid (HD.out k d hd)
   have Iw:Hid (∀i,i<4→(q k i).oneCell'=true):=Lib.hid za.out.one
   have HDK:=Lib.hid hd
   have NC:=Lib.hid (HF.out.2 k d hd)
   have Le:=Lib.hid (kr.out k d hd)
   have uT:=Lib.hid hlt
   clear hcc hd
   go_upto_region 10 with (first | (refine ig rfl rfl rfl Tryz.underlying90 rfl Tryz.sizeD16 Gd.out ?_) | (refine fV rfl 90 _ _ rfl wr.heap.size 4 (q k) _ 90 (heap_alloc_new _ _) rfl Tryz.sizeD16 rfl rfl Iw.out ?_))
   refine aD (fun w4=> nP w4 wr.heap.size 4 90 (q k)∧Below wr.heap.size wr w4) ⟨nP.setRow (heap_alloc_new _ _),aF ((Below.refl _ _).alloc (Nat.le_refl _) _) (Nat.le_refl _) _⟩ ?_
   rintro w4 ⟨hr4,hb4⟩
   have c0:=hr4.2 0 (by decide)
   have c1:=hr4.2 1 (by decide)
   have c2:=hr4.2 2 (by decide)
   have c3:=hr4.2 3 (by decide)
   rw [za.out.z0] at c0
   rw [za.out.z1] at c1
   rw [za.out.z2] at c2
   have HR4:=Lib.hid hr4
   have I4:=Lib.hid (HI.out.below hb4)
   have FU:Hid (wr.heap.size<w4.heap.size):=Lib.hid (World.block_lt_of_cell? _ _ c0)
   have ql:=Lib.hid c1
   have uU:=Lib.hid c2
   have ze:Hid (∀w',Below w4.heap.size w4 w'→∀n:Int,Calls Tryz.prog 58 #[.slice al T.length cl,.int .i64 n] w' fun e wz=> ∃u,e=.returned u∧bg F wz u (aW T n)∧Below w'.heap.size w' wz):=Lib.hid fun w' hb n=> wV (I4.out.vs.below hb) (fun b hf=> Nat.lt_of_lt_of_le (I4.out.su.lt hf) hb.size) n
   have Iy:Hid (¬ F wr.heap.size):=Lib.hid fun hf=> Nat.lt_irrefl _ (HI.out.su.lt hf)
   obtain ⟨xd,hxd⟩:∃x,x=wr.heap.size:=⟨_,rfl⟩
   rw [←hxd] at Iy ql uU FU c0 c1 c2 c3 HR4 ⊢
   clear hr4 hb4 c0 c1 c2 c3 hxd
   have HRW:Hid (∀i,i<4→w4.cell? ⟨xd,0+i,none⟩=some (q k i)):=Lib.hid fun i hi=> by rw [Nat.zero_add];exact HR4.out.2 i hi
   have yS:Hid (∀w',Below w4.heap.size w4 w'→∀u u',bg F w' u (aW T d.2.1)→bg F w' u' (aW T d.2.2.1)→Calls Tryz.prog 60 #[.pointer (some ⟨p,0,none⟩),.agg (cB 4 (q k)),u,u'] w' fun e MB=> ∃x,e=.returned x∧nO W2.heap.size W2 p (.slice al T.length cl) (yY S d (aW T d.2.1) (aW T d.2.2.1)).2.2 T tv (yY S d (aW T d.2.1) (aW T d.2.2.1)).2.1 (yY S d (aW T d.2.1) (aW T d.2.2.1)).1 MB x):=Lib.hid fun w' hb u u' hu hu'=> by
    have I':=I4.out.below hb
    have hbe:=B2.out.trans (I'.be.mono B2.out.size)
    refine (yx I'.su d Le.out.1 (za.out.below hbe) ⟨Le.out.2.2.2,za.out.z3.below hbe,fun hn c hc hf=> by have:=za.out.z3.pW hn hc;have:=I'.su.hi hf;have:=B2.out.size;omega⟩ (by have:=NC.out;omega) hu hu' (by have:=HSL.out;have:=uT.out;have:=Gb.out;omega)).mono ?_
    rintro e w9 ⟨x,rfl,hr⟩
    obtain ⟨F8,h1,h2,_⟩:=I'.step hr
    exact ⟨_,rfl,F8,x,rfl,h1,h2⟩
   obtain ⟨v8,S8,E8,eR⟩:∃v8 S8 E8,yY S d (aW T d.2.1) (aW T d.2.2.1)=(v8,E8,S8):=⟨_,_,_,rfl⟩
   have KJ:Hid (S8.l.length≤2 * k+2):=Lib.hid (by have:=zX (S:=S) (a:=aW T d.2.1) (b:=aW T d.2.2.1) d;rw [eR] at this;have h1:S8.l.length≤S.l.length+2:=this;have:=HSL.out;omega)
   rw [eR] at yS
   simp only at yS
   clear eR
   refine pq (n:=283) 10 (by kernel_rfl) (by kernel_rfl) (by kernel_rfl) (by kernel_rfl) (by kernel_rfl) rfl
    (fun ii vv=> (match ii with | 0=> vv=.pointer (some ⟨p,0,none⟩) | 1=> vv=.agg (cB 4 (q k)) | 2 | 6=> vv=.slice al T.length cl | 3=> vv=.pointer (some ⟨xd,1,none⟩) | 4=> vv=.int .i64 (d.2.1) | 7=> vv=.pointer (some ⟨xd,2,none⟩) | 8=> vv=.int .i64 (d.2.2.1) | 13 | 15=> vv=.int .i64 (E8) | _=> True)) (fun ii vv ww=> (ii=5→bg F ww vv (aW T (d.2.1)))∧(ii=9→bg F ww vv (aW T (d.2.2.1)))∧(ii=10→nO W2.heap.size W2 p (.slice al T.length cl) S8 T tv E8 v8 ww vv)∧(ii=11→nO W2.heap.size W2 p (.slice al T.length cl) S8 T tv E8 v8 ww vv)∧(ii=12→qg W2.heap.size W2 p (.slice al T.length cl) S8 T tv v8 ww vv)∧(ii=14→qg W2.heap.size W2 p (.slice al T.length cl) S8 T tv v8 ww vv))
    (fun i v w w' h hE=> ⟨fun e=> bg.below (h.1 e) hE,fun e=> bg.below (h.2.1 e) hE,fun e=> nO.below (h.2.2.1 e) hE,fun e=> nO.below (h.2.2.2.1 e) hE,fun e=> qg.below (h.2.2.2.2.1 e) hE,fun e=> qg.below (h.2.2.2.2.2 e) hE⟩)
    (fun ww=> True) (fun _ _ _ _=> trivial) ?_ ?_ ?_
   ·refine Each.all ?_
    refine ⟨?_,?_,?_,?_,?_,?_,?_,?_,?_,?_,(fun h=> absurd rfl h),?_,?_,?_,?_,?_,trivial⟩
    ·intro _ a w2 hB' hP hF hd
     have hB:=hB' (by kernel_rfl)
     rw [if_pos (ah rfl)]
     exact aA _ (.inl rfl) (by simp) ⟨(hF.same 7 rfl),fun h=> absurd h (by decide),fun h=> absurd h (by decide),fun h=> absurd h (by decide),fun h=> absurd h (by decide),fun h=> absurd h (by decide),fun h=> absurd h (by decide)⟩
    ·intro _ a w2 hB' hP hF hd
     have hB:=hB' (by kernel_rfl)
     rw [if_pos (ah rfl)]
     exact ak (fun h=> by cases h) (gu rfl (hF.same 10 rfl) Tryz.underlying90 rfl Tryz.sizeD16 (fun i hi=> (hB.cell (p:=⟨xd,0+i,none⟩) FU.out).trans (HRW.out i hi))) ⟨rfl,fun h=> absurd h (by decide),fun h=> absurd h (by decide),fun h=> absurd h (by decide),fun h=> absurd h (by decide),fun h=> absurd h (by decide),fun h=> absurd h (by decide)⟩
    ·intro _ a w2 hB' hP hF hd
     have hB:=hB' (by kernel_rfl)
     rw [if_pos (ah rfl)]
     exact aA _ (.inl rfl) (by simp) ⟨(hF.same 8 rfl),fun h=> absurd h (by decide),fun h=> absurd h (by decide),fun h=> absurd h (by decide),fun h=> absurd h (by decide),fun h=> absurd h (by decide),fun h=> absurd h (by decide)⟩
    ·intro _ a w2 hB' hP hF hd
     have hB:=hB' (by kernel_rfl)
     rw [if_pos (ah rfl)]
     refine ak (fun h=> by cases h) (bq (m:=0) (k:=1) rfl (hF.same 10 rfl) (by kernel_rfl)) ?_
     exact ⟨rfl,fun h=> absurd h (by decide),fun h=> absurd h (by decide),fun h=> absurd h (by decide),fun h=> absurd h (by decide),fun h=> absurd h (by decide),fun h=> absurd h (by decide)⟩
    ·intro _ a w2 hB' hP hF hd
     have hB:=hB' (by kernel_rfl)
     rw [if_pos (ah rfl)]
     exact ak (fun h=> by cases h) (aB rfl ((hd 3 _ rfl rfl).1) Tryz.underlying3 ((hB.cell (p:=⟨xd,1,none⟩) FU.out).trans ql.out)) ⟨rfl,fun h=> absurd h (by decide),fun h=> absurd h (by decide),fun h=> absurd h (by decide),fun h=> absurd h (by decide),fun h=> absurd h (by decide),fun h=> absurd h (by decide)⟩
    ·intro _ a w2 hB' hP hF hd
     have hB:=hB' (by kernel_rfl)
     rw [if_pos (ah rfl)]
     refine aJ _ _ _ rfl Tryz.call58 _ (args2 ((hd 2 _ rfl rfl).1) ((hd 4 _ rfl rfl).1)) (by simp) ((ze.out w2 hB _).mono ?_)
     rintro e w3 ⟨u,rfl,hr,hb⟩;exact ⟨u,rfl,⟨trivial,fun _=> hr,fun h=> absurd h (by decide),fun h=> absurd h (by decide),fun h=> absurd h (by decide),fun h=> absurd h (by decide),fun h=> absurd h (by decide)⟩,hb⟩
    ·intro _ a w2 hB' hP hF hd
     have hB:=hB' (by kernel_rfl)
     rw [if_pos (ah rfl)]
     exact aA _ (.inl rfl) (by simp) ⟨(hF.same 8 rfl),fun h=> absurd h (by decide),fun h=> absurd h (by decide),fun h=> absurd h (by decide),fun h=> absurd h (by decide),fun h=> absurd h (by decide),fun h=> absurd h (by decide)⟩
    ·intro _ a w2 hB' hP hF hd
     have hB:=hB' (by kernel_rfl)
     rw [if_pos (ah rfl)]
     refine ak (fun h=> by cases h) (bq (m:=0) (k:=2) rfl (hF.same 10 rfl) (by kernel_rfl)) ?_
     exact ⟨rfl,fun h=> absurd h (by decide),fun h=> absurd h (by decide),fun h=> absurd h (by decide),fun h=> absurd h (by decide),fun h=> absurd h (by decide),fun h=> absurd h (by decide)⟩
    ·intro _ a w2 hB' hP hF hd
     have hB:=hB' (by kernel_rfl)
     rw [if_pos (ah rfl)]
     exact ak (fun h=> by cases h) (aB rfl ((hd 7 _ rfl rfl).1) Tryz.underlying3 ((hB.cell (p:=⟨xd,2,none⟩) FU.out).trans uU.out)) ⟨rfl,fun h=> absurd h (by decide),fun h=> absurd h (by decide),fun h=> absurd h (by decide),fun h=> absurd h (by decide),fun h=> absurd h (by decide),fun h=> absurd h (by decide)⟩
    ·intro _ a w2 hB' hP hF hd
     have hB:=hB' (by kernel_rfl)
     rw [if_pos (ah rfl)]
     refine aJ _ _ _ rfl Tryz.call58 _ (args2 ((hd 6 _ rfl rfl).1) ((hd 8 _ rfl rfl).1)) (by simp) ((ze.out w2 hB _).mono ?_)
     rintro e w3 ⟨u,rfl,hr,hb⟩;exact ⟨u,rfl,⟨trivial,fun h=> absurd h (by decide),fun _=> hr,fun h=> absurd h (by decide),fun h=> absurd h (by decide),fun h=> absurd h (by decide),fun h=> absurd h (by decide)⟩,hb⟩
    ·intro _ a w2 hB' hP hF hd
     rw [if_pos (ah rfl)]
     exact aA _ (.inl rfl) (by simp) ⟨trivial,fun h=> absurd h (by decide),fun h=> absurd h (by decide),fun h=> absurd h (by decide),fun _=> ((((hd 10 _ rfl rfl).2 (by kernel_rfl)).2.2.1 rfl)),fun h=> absurd h (by decide),fun h=> absurd h (by decide)⟩
    ·intro _ a w2 hB' hP hF hd
     rw [if_pos (ah rfl)]
     obtain ⟨F_,u_,yw,Au,Jw⟩:=(((hd 11 _ rfl rfl).2 (by kernel_rfl)).2.2.2.1 rfl)
     exact ak (fun h=> by cases h) (aV rfl yw rfl) ⟨trivial,fun h=> absurd h (by decide),fun h=> absurd h (by decide),fun h=> absurd h (by decide),fun h=> absurd h (by decide),fun _=> (⟨F_,Au,Jw⟩),fun h=> absurd h (by decide)⟩
    ·intro _ a w2 hB' hP hF hd
     rw [if_pos (ah rfl)]
     obtain ⟨F_,u_,yw,Au,Jw⟩:=(((hd 11 _ rfl rfl).2 (by kernel_rfl)).2.2.2.1 rfl)
     exact ak (fun h=> by cases h) (aV rfl yw rfl) ⟨rfl,fun h=> absurd h (by decide),fun h=> absurd h (by decide),fun h=> absurd h (by decide),fun h=> absurd h (by decide),fun h=> absurd h (by decide),fun h=> absurd h (by decide)⟩
    ·intro _ a w2 hB' hP hF hd
     rw [if_pos (ah rfl)]
     exact aA _ (.inr rfl) (by simp) ⟨trivial,fun h=> absurd h (by decide),fun h=> absurd h (by decide),fun h=> absurd h (by decide),fun h=> absurd h (by decide),fun h=> absurd h (by decide),fun _=> (((hd 12 _ rfl rfl).2 (by kernel_rfl)).2.2.2.2.1 rfl)⟩
    ·intro _ a w2 hB' hP hF hd
     rw [if_pos (ah rfl)]
     exact aA _ (.inr rfl) (by simp) ⟨((hd 13 _ rfl rfl).1),fun h=> absurd h (by decide),fun h=> absurd h (by decide),fun h=> absurd h (by decide),fun h=> absurd h (by decide),fun h=> absurd h (by decide),fun h=> absurd h (by decide)⟩
   ·intro o ho a w2 hB hF hd
    obtain rfl:=Option.some.inj ho
    refine ⟨by rw [ah rfl],?_⟩
    refine wC 60 #[.tmp 57,.tmp 58,.tmp 62,.tmp 66] _ rfl Tryz.call60 _ (yK ((hd 0 _ rfl rfl).1) ((hd 1 _ rfl rfl).1) rfl rfl) (by simp) ((yS.out w2 hB _ _ (((hd 5 _ rfl rfl).2 (by kernel_rfl)).1 rfl) (((hd 9 _ rfl rfl).2 (by kernel_rfl)).2.1 rfl)).mono ?_)
    rintro e w3 ⟨x,rfl,hr⟩
    exact ⟨x,rfl,⟨trivial,fun h=> absurd h (by decide),fun h=> absurd h (by decide),fun _=> (hr),fun h=> absurd h (by decide),fun h=> absurd h (by decide),fun h=> absurd h (by decide)⟩,trivial⟩
   ·intro a w5 hP hF hS
    obtain ⟨x62,DJ⟩:∃x,x=a.tmps.getD 62 undef:=⟨_,rfl⟩
    obtain ⟨x66,DI⟩:∃x,x=a.tmps.getD 66 undef:=⟨_,rfl⟩
    obtain ⟨IZ,BP⟩:∃x,x=a.tmps.getD 67 undef:=⟨_,rfl⟩
    have MK:nO W2.heap.size W2 p (.slice al T.length cl) S8 T tv E8 v8 w5 IZ:=by rw [BP];exact ((hS 10 _ rfl).2 (by kernel_rfl)).2.2.1 rfl
    obtain ⟨Jb,BU⟩:∃x,x=a.tmps.getD 56 undef:=⟨_,rfl⟩
    have MO:nO W2.heap.size W2 p (.slice al T.length cl) S8 T tv E8 v8 w5 Jb:=by rw [BU];exact ((hS 11 _ rfl).2 (by kernel_rfl)).2.2.2.1 rfl
    obtain ⟨IY,BO⟩:∃x,x=a.tmps.getD 68 undef:=⟨_,rfl⟩
    have MJ:qg W2.heap.size W2 p (.slice al T.length cl) S8 T tv v8 w5 IY:=by rw [BO];exact ((hS 12 _ rfl).2 (by kernel_rfl)).2.2.2.2.1 rfl
    obtain ⟨Jf,Cc⟩:∃x,x=a.tmps.getD 11 undef:=⟨_,rfl⟩
    have Kq:qg W2.heap.size W2 p (.slice al T.length cl) S8 T tv v8 w5 Jf:=by rw [Cc];exact ((hS 14 _ rfl).2 (by kernel_rfl)).2.2.2.2.2 rfl
    have ha:=aH rfl rfl hF [_,_,_,_,_,x62,_,_,_,x66,IZ,Jb,IY,_,Jf,_] rfl ⟨(hS 0 _ rfl).1,(hS 1 _ rfl).1,(hS 2 _ rfl).1,(hS 3 _ rfl).1,(hS 4 _ rfl).1,DJ.symm,(hS 6 _ rfl).1,(hS 7 _ rfl).1,(hS 8 _ rfl).1,DI.symm,BP.symm,BU.symm,BO.symm,(hS 13 _ rfl).1,Cc.symm,(hS 15 _ rfl).1,trivial⟩
    simp only [puts,Act.put,List.setIfInBounds_toArray,List.set_cons_succ,List.set_cons_zero] at ha
    subst ha
    clear DJ DI BP BU BO Cc
    clear hS hF
    have HP:=Lib.hid Kq
    clear Kq MK MO MJ
    obtain ⟨F8,JD,Gz⟩:=HP.out
    have I5:=Lib.hid JD
    have U5:=Lib.hid Gz
    obtain ⟨a9,c9,e9,_⟩:=Gz.rd
    subst e9
    clear JD Gz HP hP
    by_cases he:E8=0
    ·obtain rfl:=he
     go_wp2_with (at_builtin;refine kW (y:=fun _=> .slice a9 v8.length c9) rfl _ _ rfl rfl (by rfl) I5.out.vs.os (by decide) Tryz.underlying55 Tryz.infoBs rfl rfl (fun i hi=> ⟨rfl,fun x e=> by cases e⟩) (fun z hz=> by simp [Value.cells] at hz;subst hz;exact fun x e=> by cases e) (by have:=yZ.out;have:=uT.out;have:=Gb.out;unfold maxLen;omega) (by have:=yZ.out;have:=uT.out;have:=Gb.out;omega) ?_;intro v6 w6 Dc hc6 Ed;have HA:=Lib.hid (I5.out.app U5.out Dc hc6 Ed);clear Dc hc6 Ed)
     go_roundw
     case rel=> exact ⟨k+1,uT.out,by go_num,S8,F8,T++ [v8],_,HA.out,by have:=KJ.out;omega,by rw [List.length_append,List.length_singleton];have:=yZ.out;omega⟩
     case measure=> have:=uT.out;simp [intOf] <;> omega
    ·have q1:(E8==0)=false:=by simpa using he
     clear he
     go_wp2
     go_roundw
     case rel=> exact ⟨k+1,uT.out,by go_num,S8,F8,T,tv,I5.out,by have:=KJ.out;omega,by have:=yZ.out;omega⟩
     case measure=> have:=uT.out;simp [intOf] <;> omega
theorem lS (w:World) (v:Value) (L:List oz) (h:tV w v L) (hok:∀(j:Nat) (d:oz),L[j]? =some d→zF d) (g:Nat→Int) (hg:∀i,i<3→(Lit.int .i64 (g i)).wf=true) (y:Value) (n:Nat) (f:Nat→Int) (hy:Rd .u8 w y n f) (hf:∀i,i<n→(Lit.int .u8 (f i)).wf=true):
  Calls Tryz.prog 10 #[v,.agg (arr .i64 3 g),y] w fun e w'=> e=.returned (.bool true)∧Below w.heap.size w w':=
 lQ w v L h hok g (fun i hi=> bounds_i64 (hg i hi)) y (mV n f) hy.mV (lJ fun i hi=> by have:=bounds_u8 (hf i hi);omega)
end
end Go.Proofs.YtpcjekgfnfjbpaaGreat
