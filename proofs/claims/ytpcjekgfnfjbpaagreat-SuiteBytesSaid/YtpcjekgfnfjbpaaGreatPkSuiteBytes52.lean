/- Part 52 of SuiteBytes; conditions: in each theorem. -/
import Derived.Test.YtpcjekgfnfjbpaaGreatPkSuiteBytes49
import Derived.Test.YtpcjekgfnfjbpaaGreatPkSuiteBytes51
set_option linter.unusedVariables false
set_option linter.unusedSimpArgs false
set_option maxRecDepth 100000
set_option maxHeartbeats 25600000
namespace Go.Proofs.YtpcjekgfnfjbpaaGreat
open Go.RowKit Go.bC Go.ChangeShapes Go.Maps
attribute [local go_sem ↓] Go.wp_at_zero Go.wp_at_succ
noncomputable def Dx (f:Nat->Int):Nat->Int:=dg 256 (mulN (sm 256 f 32) 9)
noncomputable def zA (f:Nat->Int):Nat->Int:=dg 256 (qH (sm 256 f 32))
theorem abK (f:Nat->Int) (i:Nat):0<=Dx f i/\Dx f i<256:=aV aN _ _
theorem abk (f:Nat->Int) (i:Nat):0<=zA f i/\zA f i<256:=aV aN _ _
theorem Ip {f:Nat->Int} {m:Nat} (hf:∀i,i<m->0<=f i/\f i<256):arr .u8 m f=arr .u8 m (dg 256 (sm 256 f m)):=gP fun i hi=>(tJ aN hf i hi).symm
theorem TP (f:Nat->Int) (hf:∀i,i<32->0<=f i/\f i<256) (w:World):Calls Tryz.prog 90 #[.agg (arr .u8 32 f)] w fun e w'=>e=.returned (.agg (arr .u8 32 (Dx f)))/\Below w.heap.size w w':=by
 rw[Ip hf];exact GL _ w
theorem Sv (f:Nat->Int) (hf:∀i,i<32->0<=f i/\f i<256) (w:World):Calls Tryz.prog 92 #[.agg (arr .u8 32 f)] w fun e w'=>e=.returned (.agg (arr .u8 32 (zA f)))/\Below w.heap.size w w':=by
 rw[Ip hf];exact Gf _ w
section
variable {B : Nat} {w w' w1 w2 w3 : World} {p q : Nat} {F F' G G' : Nat -> Prop} {sd : Nat -> Int} {n : Nat} {v u v' : Value} {l l' : List Int} {X X' : Su} {S : TS}
theorem Di (hl:l.length=32) (ho:okB l) (h:Rd .u8 w v l.length (bf l)):Calls Tryz.prog 89 #[v,.func (.func 90) #[] #[]] w fun e w'=> ∃u,e=.returned (.tuple #[u,.int .i64 0])/\Rd .u8 w' u 32 (Dx (bf l))/\Below w.heap.size w w':=by
 rw[hl] at h;have HK:=ak (nJ h);have HC:=ak (fun w=>TP (bf l) (fun i hi=>ho.at i aH) w);obtain⟨a,c,rfl,h1,h2,_,h4⟩:=h;obtain⟨D,hD⟩:∃D,D=Dx (bf l):=⟨_,rfl⟩
 rw[<-hD] at HC ⊢;clear hD h4 hl ho
 go_enter Tryz.func89,Tryz.ntmps89
 go_wp2_with fail;refine HK.out.mono ?_;rintro e w1 ⟨rfl,b1⟩;have B1:=ak b1;clear b1;obtain⟨f,hf⟩:∃f,f=bf l:=⟨_,rfl⟩
 rw[<-hf] at HC ⊢;clear hf;go_upto_region 2 with(refine aM rfl 22 _ _ rfl .u8 w1.heap.size 32 (fun _=>0) f dh rfl rfl (bU rfl (by rfl)) ?_);refine aJ (fun w2=>aQ .u8 w2 w1.heap.size 32 f/\Below w.heap.size w w2) ⟨(show aQ .u8 (w1.alloc (.cells (arr .u8 32 (fun _=>0)) 22)) w1.heap.size 32 (fun _=>0) from bU rfl rfl).setRow 32 f,aC (B1.out.alloc B1.out.size _) B1.out.size _⟩ ?_;rintro w2 ⟨h2,b2⟩;have H2:=ak h2;have B2:=ak b2;clear h2 b2;go_wp2_with (refine bq rfl 22 _ rfl .u8 w1.heap.size 32 f 5 dY dh rfl H2.out ?_);refine(HC.out _).mono ?_;rintro e w3 ⟨rfl,b3⟩;have B3:=ak (B2.out.trans (b3.mono B2.out.size));clear b3;go_upto_region 5 with(refine aM rfl 22 _ _ rfl .u8 w3.heap.size 32 (fun _=>0) D dh rfl rfl (bU rfl (by rfl)) ?_);refine aJ (fun w4=>aQ .u8 w4 w3.heap.size 32 D/\Below w.heap.size w w4) ⟨(show aQ .u8 (w3.alloc (.cells (arr .u8 32 (fun _=>0)) 22)) w3.heap.size 32 (fun _=>0) from bU rfl rfl).setRow 32 D,aC (B3.out.alloc B3.out.size _) B3.out.size _⟩ ?_;rintro w4 ⟨h4,b4⟩;have HR:=ak (h4.rd aN);have B4:=ak b4;clear h4 b4;go_wp2;go_ret2;exact⟨_,rfl,HR.out,B4.out⟩
theorem zC (hl:l.length≠32) (h:Rd .u8 w v l.length (bf l)):Calls Tryz.prog 89 #[v,.func (.func 90) #[] #[]] w fun e w'=>e=.returned (.tuple #[.slice none 0 0,.int .i64 11])/\Below w.heap.size w w':=by
 have HK:=ak (sF h hl);obtain⟨a,c,rfl,h1,h2,_,h4⟩:=h;clear h4 hl
 go_enter Tryz.func89,Tryz.ntmps89
 go_wp2_with fail;refine HK.out.mono ?_;rintro e w1 ⟨rfl,b1⟩;have B1:=ak b1;clear b1;go_upto_region 2 with(refine aM rfl 22 _ _ rfl .u8 w1.heap.size 32 (fun _=>0) (fun _=>0) dh rfl rfl (bU rfl (by rfl)) ?_);refine aJ (fun w2=>Below w.heap.size w w2) (aC (B1.out.alloc B1.out.size _) B1.out.size _) ?_;rintro w2 b2;have B2:=ak b2;clear b2;go_wp2;go_ret2;exact⟨rfl,B2.out⟩
theorem Jm (h:xS B w p F (.by sd n)) (hb:kJ F w v l):Calls Tryz.prog 33 #[.pointer (some ⟨p,0,none⟩),v] w fun e w'=> ∃u,e=.returned (.tuple #[u,.int .i64 (rR Dx sd n l).2.1])/\RA B w p F u (rR Dx sd n l) w':=by
 have HQ:=ak h;have HW:=ak (eB h.1.r);obtain⟨R,hR⟩:∃x,x=rR Dx sd n l:=⟨_,rfl⟩
 rw[<-hR];have HR:=ak hR;by_cases hl:l.length=32
 ·have HC:=ak (Di hl hb.ok hb.rd);have HE:Hid (R=(mW 32 (Dx (bf l)),0,.by sd n)):=ak (by rw[HR.out];exact if_pos hl);obtain⟨av,cv,rfl,_⟩:=hb.rd;clear hR h hb hl
  go_enter Tryz.func33,Tryz.ntmps33
  go_wp2_with fail;refine HW.out.mono ?_;rintro e w1 ⟨rfl,rfl⟩;go_wp2_with fail;refine HC.out.mono ?_;rintro e w2 ⟨u,rfl,hr,b2⟩;have HD:=ak (vV HQ.out (HQ.out.1.below b2) (Ag.of_below b2 _) hr (fun i _=>abK (bf l) i) 0);clear hr b2;go_wp2;go_ret2;rw[HE.out];exact⟨u,rfl,HD.out⟩
 ·have HC:=ak (zC hl hb.rd);have HE:Hid (R=([],11,.by sd n)):=ak (by rw[HR.out];exact if_neg hl);obtain⟨av,cv,rfl,_⟩:=hb.rd;clear hR h hb hl
  go_enter Tryz.func33,Tryz.ntmps33
  go_wp2_with fail;refine HW.out.mono ?_;rintro e w1 ⟨rfl,rfl⟩;go_wp2_with fail;refine HC.out.mono ?_;rintro e w2 ⟨rfl,b2⟩;have HD:=ak (uf HQ.out b2 11);clear b2;go_wp2;go_ret2;rw[HE.out];exact⟨_,rfl,HD.out⟩
theorem zB (hl:l.length=32) (ho:okB l) (h:Rd .u8 w v l.length (bf l)):Calls Tryz.prog 89 #[v,.func (.func 92) #[] #[]] w fun e w'=> ∃u,e=.returned (.tuple #[u,.int .i64 0])/\Rd .u8 w' u 32 (zA (bf l))/\Below w.heap.size w w':=by
 rw[hl] at h;have HK:=ak (nJ h);have HC:=ak (fun w=>Sv (bf l) (fun i hi=>ho.at i aH) w);obtain⟨a,c,rfl,h1,h2,_,h4⟩:=h;obtain⟨D,hD⟩:∃D,D=zA (bf l):=⟨_,rfl⟩
 rw[<-hD] at HC ⊢;clear hD h4 hl ho
 go_enter Tryz.func89,Tryz.ntmps89
 go_wp2_with fail;refine HK.out.mono ?_;rintro e w1 ⟨rfl,b1⟩;have B1:=ak b1;clear b1;obtain⟨f,hf⟩:∃f,f=bf l:=⟨_,rfl⟩
 rw[<-hf] at HC ⊢;clear hf;go_upto_region 2 with(refine aM rfl 22 _ _ rfl .u8 w1.heap.size 32 (fun _=>0) f dh rfl rfl (bU rfl (by rfl)) ?_);refine aJ (fun w2=>aQ .u8 w2 w1.heap.size 32 f/\Below w.heap.size w w2) ⟨(show aQ .u8 (w1.alloc (.cells (arr .u8 32 (fun _=>0)) 22)) w1.heap.size 32 (fun _=>0) from bU rfl rfl).setRow 32 f,aC (B1.out.alloc B1.out.size _) B1.out.size _⟩ ?_;rintro w2 ⟨h2,b2⟩;have H2:=ak h2;have B2:=ak b2;clear h2 b2;go_wp2_with (refine bq rfl 22 _ rfl .u8 w1.heap.size 32 f 5 dY dh rfl H2.out ?_);refine(HC.out _).mono ?_;rintro e w3 ⟨rfl,b3⟩;have B3:=ak (B2.out.trans (b3.mono B2.out.size));clear b3;go_upto_region 5 with(refine aM rfl 22 _ _ rfl .u8 w3.heap.size 32 (fun _=>0) D dh rfl rfl (bU rfl (by rfl)) ?_);refine aJ (fun w4=>aQ .u8 w4 w3.heap.size 32 D/\Below w.heap.size w w4) ⟨(show aQ .u8 (w3.alloc (.cells (arr .u8 32 (fun _=>0)) 22)) w3.heap.size 32 (fun _=>0) from bU rfl rfl).setRow 32 D,aC (B3.out.alloc B3.out.size _) B3.out.size _⟩ ?_;rintro w4 ⟨h4,b4⟩;have HR:=ak (h4.rd aN);have B4:=ak b4;clear h4 b4;go_wp2;go_ret2;exact⟨_,rfl,HR.out,B4.out⟩
theorem vS (hl:l.length≠32) (h:Rd .u8 w v l.length (bf l)):Calls Tryz.prog 89 #[v,.func (.func 92) #[] #[]] w fun e w'=>e=.returned (.tuple #[.slice none 0 0,.int .i64 11])/\Below w.heap.size w w':=by
 have HK:=ak (sF h hl);obtain⟨a,c,rfl,h1,h2,_,h4⟩:=h;clear h4 hl
 go_enter Tryz.func89,Tryz.ntmps89
 go_wp2_with fail;refine HK.out.mono ?_;rintro e w1 ⟨rfl,b1⟩;have B1:=ak b1;clear b1;go_upto_region 2 with(refine aM rfl 22 _ _ rfl .u8 w1.heap.size 32 (fun _=>0) (fun _=>0) dh rfl rfl (bU rfl (by rfl)) ?_);refine aJ (fun w2=>Below w.heap.size w w2) (aC (B1.out.alloc B1.out.size _) B1.out.size _) ?_;rintro w2 b2;have B2:=ak b2;clear b2;go_wp2;go_ret2;exact⟨rfl,B2.out⟩
theorem Dh (h:xS B w p F (.by sd n)) (hb:kJ F w v l):Calls Tryz.prog 34 #[.pointer (some ⟨p,0,none⟩),v] w fun e w'=> ∃u,e=.returned (.tuple #[u,.int .i64 (rR zA sd n l).2.1])/\RA B w p F u (rR zA sd n l) w':=by
 have HQ:=ak h;have HW:=ak (eB h.1.r);obtain⟨R,hR⟩:∃x,x=rR zA sd n l:=⟨_,rfl⟩
 rw[<-hR];have HR:=ak hR;by_cases hl:l.length=32
 ·have HC:=ak (zB hl hb.ok hb.rd);have HE:Hid (R=(mW 32 (zA (bf l)),0,.by sd n)):=ak (by rw[HR.out];exact if_pos hl);obtain⟨av,cv,rfl,_⟩:=hb.rd;clear hR h hb hl
  go_enter Tryz.func34,Tryz.ntmps34
  go_wp2_with fail;refine HW.out.mono ?_;rintro e w1 ⟨rfl,rfl⟩;go_wp2_with fail;refine HC.out.mono ?_;rintro e w2 ⟨u,rfl,hr,b2⟩;have HD:=ak (vV HQ.out (HQ.out.1.below b2) (Ag.of_below b2 _) hr (fun i _=>abk (bf l) i) 0);clear hr b2;go_wp2;go_ret2;rw[HE.out];exact⟨u,rfl,HD.out⟩
 ·have HC:=ak (vS hl hb.rd);have HE:Hid (R=([],11,.by sd n)):=ak (by rw[HR.out];exact if_neg hl);obtain⟨av,cv,rfl,_⟩:=hb.rd;clear hR h hb hl
  go_enter Tryz.func34,Tryz.ntmps34
  go_wp2_with fail;refine HW.out.mono ?_;rintro e w1 ⟨rfl,rfl⟩;go_wp2_with fail;refine HC.out.mono ?_;rintro e w2 ⟨rfl,b2⟩;have HD:=ak (uf HQ.out b2 11);clear b2;go_wp2;go_ret2;rw[HE.out];exact⟨_,rfl,HD.out⟩
end
section
variable {B : Nat} {w w' : World} {p : Nat} {F : Nat -> Prop} {sd : Nat -> Int} {n : Nat} {v : Value} {x : List Int}
theorem LJ (h:xS B w p F (.by sd n)):Calls Tryz.prog 27 #[.pointer (some ⟨p,0,none⟩)] w fun e w'=>e=.returned (.pointer none)/\w'=w:=by
 have HW:=ak (eB h.1.r);clear h
 go_enter Tryz.func27,Tryz.ntmps27
 go_wp2_with fail;refine HW.out.mono ?_;rintro e w1 ⟨rfl,rfl⟩;go_wp2;go_ret;exact⟨rfl,rfl⟩
theorem Jp (h:xS B w p F (.by sd n)) (hb:kJ F w v x) (hx:x.length<=1000):Calls Tryz.prog 28 #[.pointer (some ⟨p,0,none⟩),v] w fun e w'=> ∃u,e=.returned (.tuple #[u,.int .i64 0])/\kJ F w' u (mW 32 (gJ x.length (bf x)))/\Below w.heap.size w w':=by
 have HW:=ak (eB h.1.r);have HNF:=ak h.2;have HX:=ak hb.rd;obtain⟨D,hD⟩:∃D,D=gJ x.length (bf x):=⟨_,rfl⟩
 have HDB:Hid (∀i,i<32->0<=D i/\D i<256):=ak fun i hi=>hD▸fM _ _ i;have HH:Hid (∀w' t,oq w' t 1 (fun _=>x.length) (fun _=>bf x)->Calls Tryz.prog 80 #[t] w' fun e w2=>e=.returned (.agg (arr .u8 32 D))/\Below w'.heap.size w' w2):=ak fun w' t ht=>by
  rw[hD];exact Vp t 1 (fun _=>x.length) (fun _=>bf x) x.length (bf x) w' ht (fun j hj i hi=>by obtain rfl:j=0:=aH;show bf x (0+i)=bf x i;rw[oD]) (by show 0+x.length=x.length;omega) aH (fun i hi=>hb.ok.at i hi)
 obtain⟨nx,hnx⟩:∃n,n=x.length:=⟨_,rfl⟩
 rw[<-hnx] at HX HH;rw[<-hD];obtain⟨av,cv,rfl,_⟩:=id HX.out;clear h hb hx hD hnx
 go_enter Tryz.func28,Tryz.ntmps28
 go_wp2_with fail;refine HW.out.mono ?_;rintro e w1 ⟨rfl,rfl⟩;go_wp2_with fail;have BA:=(bT w1.heap.size w1).alloc (bB _) (.cells [Value.slice av nx cv].toArray 23);refine(HH.out _ _ (new1 HX.out (bT _ _))).mono ?_;rintro e w2 ⟨rfl,b2⟩;have B2:=ak (BA.trans (b2.mono (by rw[World.size_alloc];omega)));clear b2 BA;go_upto_region 4 with(refine aM rfl 22 _ _ rfl .u8 w2.heap.size 32 (fun _=>0) D dh rfl rfl (bU rfl (by rfl)) ?_);refine aJ (fun w3=>aQ .u8 w3 w2.heap.size 32 D/\Below w1.heap.size w1 w3) ⟨(show aQ .u8 (w2.alloc (.cells (arr .u8 32 (fun _=>0)) 22)) w2.heap.size 32 (fun _=>0) from bU rfl rfl).setRow 32 D,aC (B2.out.alloc B2.out.size _) B2.out.size _⟩ ?_;rintro w3 ⟨h3,b3⟩;have H3:=ak (h3.rd aN);have B3:=ak b3;clear h3 b3;go_wp2;go_ret2;exact⟨_,rfl,kJ.any H3.out (fun i hi=>HDB.out i hi) HNF.out,B3.out⟩
theorem PW (h:xS B w p F (.by sd n)) (hb:kJ F w v x) (hx:x.length<=1000):Calls Tryz.prog 29 #[.pointer (some ⟨p,0,none⟩),v] w fun e w'=> ∃u,e=.returned (.tuple #[u,.int .i64 0])/\kJ F w' u x/\Below w.heap.size w w':=by
 have HW:=ak (eB h.1.r);have HNF:=ak h.2;have HX:=ak hb.rd;have HO:=ak hb.ok;obtain⟨nx,hnx⟩:∃n,n=x.length:=⟨_,rfl⟩
 have HNX:Hid (nx=x.length):=ak hnx;have HL:Hid (nx<=1000):=ak aH;rw[<-hnx] at HX;obtain⟨av,cv,rfl,_⟩:=id HX.out;clear h hb hx hnx
 go_enter Tryz.func29,Tryz.ntmps29
 go_wp2_with fail;refine HW.out.mono ?_;rintro e w1 ⟨rfl,rfl⟩;go_wp2_with (at_builtin;refine fH rfl _ _ 23 rfl w1.heap.size 5 .u8 1 lK pI _ 0 (bf x) ?_ rfl _ nx (bf x) (HX.out.below ((bT _ _).alloc (bB _) _)) rfl (fun i _=>by rw[oD]) (by have:=HL.out;omega) (by have:=HL.out;omega) aR ?_;rotate_right;intro v' w3 bM bA)
 ·rw[oD] at bM;have HY:Hid (kJ F w3 v' x):=ak ⟨HO.out,HNX.out▸bM.rd,fun _ b _=>HNF.out b⟩;have HB:=ak (below_grown ((bT w1.heap.size w1).alloc (bB _) _) bA (Own.new .u8 5 w1 #[] 0 (bf x) (bB _) aH rfl (fun i hi=>by omega)) aR (bB _));obtain⟨a3,c3,rfl,_⟩:=bM.rd;clear bM bA;go_wp2;go_ret2;exact⟨_,rfl,HY.out,HB.out⟩
 ·exact Own.new _ _ _ _ _ _ (bB _) aH rfl (fun i hi=>by omega)
theorem PS (h:xS B w p F (.by sd n)) (hb:kJ F w v x) (hx:x.length<=1000):Calls Tryz.prog 30 #[.pointer (some ⟨p,0,none⟩),v] w fun e w'=> ∃u,e=.returned (.tuple #[u,.int .i64 0])/\kJ F w' u x/\Below w.heap.size w w':=by
 have HW:=ak (eB h.1.r);have HNF:=ak h.2;have HX:=ak hb.rd;have HO:=ak hb.ok;obtain⟨nx,hnx⟩:∃n,n=x.length:=⟨_,rfl⟩
 have HNX:Hid (nx=x.length):=ak hnx;have HL:Hid (nx<=1000):=ak aH;rw[<-hnx] at HX;obtain⟨av,cv,rfl,_⟩:=id HX.out;clear h hb hx hnx
 go_enter Tryz.func30,Tryz.ntmps30
 go_wp2_with fail;refine HW.out.mono ?_;rintro e w1 ⟨rfl,rfl⟩;go_wp2_with (at_builtin;refine fH rfl _ _ 23 rfl w1.heap.size 5 .u8 1 lK pI _ 0 (bf x) ?_ rfl _ nx (bf x) (HX.out.below ((bT _ _).alloc (bB _) _)) rfl (fun i _=>by rw[oD]) (by have:=HL.out;omega) (by have:=HL.out;omega) aR ?_;rotate_right;intro v' w3 bM bA)
 ·rw[oD] at bM;have HY:Hid (kJ F w3 v' x):=ak ⟨HO.out,HNX.out▸bM.rd,fun _ b _=>HNF.out b⟩;have HB:=ak (below_grown ((bT w1.heap.size w1).alloc (bB _) _) bA (Own.new .u8 5 w1 #[] 0 (bf x) (bB _) aH rfl (fun i hi=>by omega)) aR (bB _));obtain⟨a3,c3,rfl,_⟩:=bM.rd;clear bM bA;go_wp2;go_ret2;exact⟨_,rfl,HY.out,HB.out⟩
 ·exact Own.new _ _ _ _ _ _ (bB _) aH rfl (fun i hi=>by omega)
end
end Go.Proofs.YtpcjekgfnfjbpaaGreat
namespace Go.Proofs.YtpcjekgfnfjbpaaGreat
open Go.RowKit Go.bC Go.ChangeShapes Go.Maps
noncomputable def Su.pub:Su->List Int->UA
 | .by sd n,l=>rR Dx sd n l
 | .tm S,l=>((sP 2 S l).1,(sP 2 S l).2.1,.tm (sP 2 S l).2.2)
noncomputable def Su.ver:Su->List Int->UA
 | .by sd n,l=>rR zA sd n l
 | .tm S,l=>((sP 3 S l).1,(sP 3 S l).2.1,.tm (sP 3 S l).2.2)
section
variable {B : Nat} {w w' : World} {p : Nat} {F : Nat -> Prop} {v u v' : Value} {l l' : List Int} {X : Su}
theorem vT (h:xS B w p F X) (hb:kJ F w v l) (hn:X.size<=900):Calls Tryz.prog 33 #[.pointer (some ⟨p,0,none⟩),v] w fun e w'=> ∃u,e=.returned (.tuple #[u,.int .i64 (X.pub l).2.1])/\RA B w p F u (X.pub l) w':=by
 cases X with
 | «by» sd n=>exact Jm h hb
 | tm S=>exact(Jl h hb hn).mono fun e w' ⟨u,h1,h2⟩=>⟨u,h1,h2.su⟩
theorem sj (h:xS B w p F X) (hb:kJ F w v l) (hn:X.size<=900):Calls Tryz.prog 34 #[.pointer (some ⟨p,0,none⟩),v] w fun e w'=> ∃u,e=.returned (.tuple #[u,.int .i64 (X.ver l).2.1])/\RA B w p F u (X.ver l) w':=by
 cases X with
 | «by» sd n=>exact Dh h hb
 | tm S=>exact(Df h hb hn).mono fun e w' ⟨u,h1,h2⟩=>⟨u,h1,h2.su⟩
end
end Go.Proofs.YtpcjekgfnfjbpaaGreat
namespace Go.Proofs.YtpcjekgfnfjbpaaGreat
open Go.RowKit Go.bC Go.ChangeShapes Go.Maps
attribute [local go_sem ↓] Go.wp_at_zero Go.wp_at_succ
section
variable {B : Nat} {w w' w1 w2 w3 : World} {p q : Nat} {F F' G G' : Nat -> Prop} {sd : Nat -> Int} {n : Nat} {v u v' : Value} {l l' x : List Int} {X X' : Su} {S : TS}
noncomputable def sI (l x:List Int):List Int × Int:=if l.length=32 then (mW 64 (CJ (sm 256 (bf l) 32) (bf x) x.length),0) else ([],11)
theorem PV (h:xS B w p F (.by sd n)) (hb:kJ F w v l) (hb':kJ F w v' x) (hx:x.length<=1000):Calls Tryz.prog 37 #[.pointer (some ⟨p,0,none⟩),v,v'] w fun e w'=> ∃u,e=.returned (.tuple #[u,.int .i64 (sI l x).2])/\kJ F w' u (sI l x).1/\Below w.heap.size w w':=by
 have HW:=ak (eB h.1.r);have HNF:=ak h.2;obtain⟨R,hR⟩:∃R,R=sI l x:=⟨_,rfl⟩
 rw[<-hR];by_cases hl:l.length=32
 ·have hr1:=hb.rd;rw[hl] at hr1;have HK:=ak (nJ hr1);have HE:Hid (R=(mW 64 (CJ (sm 256 (bf l) 32) (bf x) x.length),0)):=ak (by rw[hR];exact if_pos hl);obtain⟨D,hD⟩:∃D,D=CJ (sm 256 (bf l) 32) (bf x) x.length:=⟨_,rfl⟩
  have HDB:Hid (∀i,0<=D i/\D i<256):=ak fun i=>hD▸Ti _ _ _ i;have HX:=ak hb'.rd;obtain⟨K,hK⟩:∃K,K=bf l:=⟨_,rfl⟩
  have Xf:Hid (∀w',Below w.heap.size w w'->Calls Tryz.prog 95 #[.agg (arr .u8 32 K),v'] w' fun e w2=>e=.returned (.agg (arr .u8 64 D))/\Below w'.heap.size w' w2):=ak fun w' bw=>by
   rw[hK,Ip (fun i hi=>hb.ok.at i aH),hD];exact LW _ _ _ _ w' (hb'.rd.below bw) aH (fun i hi=>hb'.ok.at i hi)
  rw[<-hD] at HE;rw[<-hK] at HK;obtain⟨av,cv,rfl,_⟩:=hb.rd;obtain⟨av',cv',rfl,_⟩:=hb'.rd;clear hR hl hr1 hD hK hb hb' hx h
  go_enter Tryz.func37,Tryz.ntmps37
  go_wp2_with fail;refine HW.out.mono ?_;rintro e w1 ⟨rfl,rfl⟩;go_wp2_with fail;refine HK.out.mono ?_;rintro e w2 ⟨rfl,b2⟩;have B2:=ak b2;clear b2;go_upto_region 4 with(refine aM rfl 22 _ _ rfl .u8 w2.heap.size 32 (fun _=>0) K dh rfl rfl (bU rfl (by rfl)) ?_);refine aJ (fun w3=>aQ .u8 w3 w2.heap.size 32 K/\Below w1.heap.size w1 w3) ⟨(show aQ .u8 (w2.alloc (.cells (arr .u8 32 (fun _=>0)) 22)) w2.heap.size 32 (fun _=>0) from bU rfl rfl).setRow 32 K,aC (B2.out.alloc B2.out.size _) B2.out.size _⟩ ?_;rintro w3 ⟨h3,b3⟩;have H3:=ak h3;have B3:=ak b3;clear h3 b3;go_wp2_with (refine bq rfl 22 _ rfl .u8 w2.heap.size 32 K 5 dY dh rfl H3.out ?_);refine(Xf.out w3 B3.out).mono ?_;rintro e w4 ⟨rfl,b4⟩;have B4:=ak (B3.out.trans (b4.mono B3.out.size));clear b4;go_upto_region 7 with(refine aM rfl 47 _ _ rfl .u8 w4.heap.size 64 (fun _=>0) D zy rfl rfl (bU rfl (by rfl)) ?_);refine aJ (fun w5=>aQ .u8 w5 w4.heap.size 64 D/\Below w1.heap.size w1 w5) ⟨(show aQ .u8 (w4.alloc (.cells (arr .u8 64 (fun _=>0)) 47)) w4.heap.size 64 (fun _=>0) from bU rfl rfl).setRow 64 D,aC (B4.out.alloc B4.out.size _) B4.out.size _⟩ ?_;rintro w5 ⟨h5,b5⟩;have H5:=ak (h5.rd aN);have B5:=ak b5;clear h5 b5;go_wp2;go_ret2;rw[HE.out];exact⟨_,rfl,kJ.any H5.out (fun i _=>HDB.out i) HNF.out,B5.out⟩
 ·have HK:=ak (sF hb.rd hl);have HE:Hid (R=([],11)):=ak (by rw[hR];exact if_neg hl);obtain⟨av,cv,rfl,_⟩:=hb.rd;obtain⟨av',cv',rfl,_⟩:=hb'.rd;clear hR h hb hb' hl
  go_enter Tryz.func37,Tryz.ntmps37
  go_wp2_with fail;refine HW.out.mono ?_;rintro e w1 ⟨rfl,rfl⟩;go_wp2_with fail;refine HK.out.mono ?_;rintro e w2 ⟨rfl,b2⟩;have B2:=ak b2;clear b2;go_upto_region 4 with(refine aM rfl 22 _ _ rfl .u8 w2.heap.size 32 (fun _=>0) (fun _=>0) dh rfl rfl (bU rfl (by rfl)) ?_);refine aJ (fun w3=>Below w1.heap.size w1 w3) (aC (B2.out.alloc B2.out.size _) B2.out.size _) ?_;rintro w3 b3;have B3:=ak b3;clear b3;go_wp2;go_ret2;rw[HE.out];exact⟨_,rfl,kJ.nil _ _,B3.out⟩
theorem LQ {a:List Int} {vx:Value} (h:xS B w p F (.by sd n)) (hb:kJ F w v (mW 32 (zA (bf a)))) (hy:kJ F w vx x) (hb':kJ F w v' (mW 64 (CJ (sm 256 (bf a) 32) (bf x) x.length))) (hx:x.length<=1000):Calls Tryz.prog 42 #[.pointer (some ⟨p,0,none⟩),v,vx,v'] w fun e w'=>e=.returned (.int .i64 0)/\Below w.heap.size w w':=by
 have HW:=ak (eB h.1.r);obtain⟨S0,hS0⟩:∃S0,S0=sm 256 (bf a) 32:=⟨_,rfl⟩
 have hr1:Rd .u8 w v 32 (dg 256 (qH S0)):=by
  have:=hb.rd;rw[fA] at this;refine this.congr fun i hi=>?_;rw[oo hi,hS0]
  rfl
 have hr2:Rd .u8 w v' 64 (CJ S0 (bf x) x.length):=by
  have:=hb'.rd;rw[fA] at this;refine this.congr fun i hi=>?_;rw[oo hi,hS0]
 have HK:=ak (nJ hr1);obtain⟨K,hK⟩:∃K,K=dg 256 (qH S0):=⟨_,rfl⟩
 have HVE:Hid (∀w',Below w.heap.size w w'->Calls Tryz.prog 104 #[.agg (arr .u8 32 K),vx,v'] w' fun e w2=>e=.returned (.int .i64 0)/\Below w'.heap.size w' w2):=ak fun w' bw=>by
  rw[hK];exact Tf S0 vx v' x.length (bf x) w' (hy.rd.below bw) (hr2.below bw) aH (fun i hi=>hy.ok.at i hi)
 rw[<-hK] at HK;obtain⟨av,cv,rfl,_⟩:=hr1;obtain⟨av',cv',rfl,_⟩:=hr2;obtain⟨ax,cx,rfl,_⟩:=hy.rd;clear hK hb hb' hy hx h hS0
 go_enter Tryz.func42,Tryz.ntmps42
 go_wp2_with fail;refine HW.out.mono ?_;rintro e w1 ⟨rfl,rfl⟩;go_wp2_with fail;refine HK.out.mono ?_;rintro e w2 ⟨rfl,b2⟩;have B2:=ak b2;clear b2;go_upto_region 4 with(refine aM rfl 22 _ _ rfl .u8 w2.heap.size 32 (fun _=>0) K dh rfl rfl (bU rfl (by rfl)) ?_);refine aJ (fun w3=>aQ .u8 w3 w2.heap.size 32 K/\Below w1.heap.size w1 w3) ⟨(show aQ .u8 (w2.alloc (.cells (arr .u8 32 (fun _=>0)) 22)) w2.heap.size 32 (fun _=>0) from bU rfl rfl).setRow 32 K,aC (B2.out.alloc B2.out.size _) B2.out.size _⟩ ?_;rintro w3 ⟨h3,b3⟩;have H3:=ak h3;have B3:=ak b3;clear h3 b3;go_wp2_with (refine bq rfl 22 _ rfl .u8 w2.heap.size 32 K 5 dY dh rfl H3.out ?_);refine(HVE.out w3 B3.out).mono ?_;rintro e w4 ⟨rfl,b4⟩;have B4:=ak (B3.out.trans (b4.mono B3.out.size));clear b4;go_wp2;go_ret;exact⟨rfl,B4.out⟩
end
noncomputable def Su.sgn:Su->List Int->List Int->UA
 | .by sd n,a,x=>((sI a x).1,(sI a x).2,.by sd n)
 | .tm S,a,x=>((yT S a x).1,(yT S a x).2.1,.tm (yT S a x).2.2)
def Su.hol:Su->List Int->List Int->List Int->Prop
 | .by _ _,v,x,g=> ∃a,v=mW 32 (zA (bf a))/\g=mW 64 (CJ (sm 256 (bf a) 32) (bf x) x.length)
 | .tm S,v,x,g=>vB S v x g=0
section
variable {B : Nat} {w w' w1 w2 w3 : World} {p q : Nat} {F F' G G' : Nat -> Prop} {sd : Nat -> Int} {n : Nat} {v u v' vx : Value} {l l' x : List Int} {X X' : Su} {S : TS}
theorem Au (h:xS B w p F X) (hb:kJ F w v l) (hb':kJ F w v' x) (hx:x.length<=1000) (hn:X.size<=900):Calls Tryz.prog 37 #[.pointer (some ⟨p,0,none⟩),v,v'] w fun e w'=> ∃u,e=.returned (.tuple #[u,.int .i64 (X.sgn l x).2.1])/\RA B w p F u (X.sgn l x) w':=by
 cases X with
 | «by» sd n=>
  refine(PV h hb hb' hx).mono ?_;rintro e w' ⟨u,e1,y,b⟩;exact⟨u,e1,F,xS.below h b,y,Ag.of_below b F,fun b h=>.inl h⟩
 | tm S=>exact(PU h hb hb' hx hn).mono fun e w' ⟨u,h1,h2⟩=>⟨u,h1,h2.su⟩
theorem Jq (h:xS B w p F X) (hb:kJ F w v l) (hy:kJ F w vx x) (hb':kJ F w v' l') (hx:x.length<=1000) (hn:X.size<=900) (hh:X.hol l x l'):Calls Tryz.prog 42 #[.pointer (some ⟨p,0,none⟩),v,vx,v'] w fun e w'=>e=.returned (.int .i64 0)/\Below w.heap.size w w':=by
 cases X with
 | «by» sd n=>
  obtain⟨a,rfl,rfl⟩:=hh;exact LQ h hb hy hb' hx
 | tm S=>
  have h0:vB S l x l'=0:=hh;have:=LP h hb hy hb' (jS hn aN);rw[h0] at this;exact this
end
theorem BZ (sd:Nat->Int) (hs:∀i,i<32->0<=sd i/\sd i<256) (n:Nat) (hn:n<=100000) (w:World):Calls Tryz.prog 18 #[.agg (arr .u8 32 sd),.int .i64 (n:Int)] w fun e w'=>e=.returned (.agg (arr .u8 32 (mI sd n)))/\Below w.heap.size w w':=by
 have ZL:=ak hs;have HN:=ak hn;obtain⟨D,hD⟩:∃D,D=mI sd n:=⟨_,rfl⟩
 rw[<-hD];have HKY:Hid (∀v vc w,Rd .u8 w v 32 sd->oq w vc 1 (fun _=>8) (fun _=>wM n)->Calls Tryz.prog 38 #[v,.string BU,vc] w fun e w'=>e=.returned (.tuple #[.agg (arr .u8 32 D),.int .i64 0])/\Below w.heap.size w w'):=ak fun v vc w h1 h2=>by
  rw[hD];exact xZ _ 32 sd BU _ 1 (fun _=>8) (fun _=>wM n) _ h1 aN aN hs aN h2 aN (fun j hj=>by decide) (fun j hj i hi=>Gu _ _)
 clear hs hn hD
 go_enter Tryz.func18,Tryz.ntmps18
 go_upto_region 1 with(fail);refine aJ (fun w1=>aQ .u8 w1 w.heap.size 32 sd/\aQ .u8 w1 (w.heap.size+1) 32 (fun _=>0)/\Below w.heap.size w w1) ⟨.alloc (bU rfl rfl) _,bU (by first | omega | (simp<;> omega)) (by rfl),((bT _ _).alloc (bB _) _).alloc (by first | omega | (simp<;> omega)) _⟩ ?_;rintro w1 ⟨h2,h4,b1⟩;have H2:=ak h2;have H4:=ak h4;have B1:=ak b1;clear h2 h4 b1;go_wp2_with fail;refine(WT (n:Int) 8 w1 aN aN aH (by have:=HN.out;omega) (by have:=HN.out;omega)).mono ?_;rintro e w2 ⟨u,rfl,hu,b2⟩;have HU:Hid (Rd .u8 w2 u 8 (wM n)):=ak hu.rd;obtain⟨au,cu,rfl,_⟩:=hu.rd;have HA2:=ak (H2.out.kept b2);have HB2:=ak (H4.out.kept b2);have B2:=ak (B1.out.trans (b2.mono B1.out.size));clear hu b2;go_wp2_with (refine bq rfl 22 _ rfl .u8 w.heap.size 32 sd 5 dY dh rfl HA2.out ?_);refine(Bb sd ZL.out w2.heap.size w2 (bB _)).mono ?_;rintro e w3 ⟨v3,rfl,hv3,b3⟩;have HV3:=ak hv3.rd;obtain⟨a3,c3,rfl,_⟩:=hv3.rd;have HU3:=ak (HU.out.below b3);have HB3:=ak (HB2.out.kept b3);have B3:=ak (B2.out.trans (b3.mono B2.out.size));clear hv3 b3;go_wp2_with fail;have BA:=(bT w3.heap.size w3).alloc (bB _) (.cells [Value.slice au 8 cu].toArray 23);refine(HKY.out _ _ _ (HV3.out.below BA) (new1 HU3.out (bT _ _))).mono ?_;rintro e w4 ⟨rfl,b4⟩;have RY:=ak (HB3.out.kept (BA.trans (b4.mono (by rw[World.size_alloc];omega))));have B4:=ak (B3.out.trans ((BA.trans (b4.mono (by rw[World.size_alloc];omega))).mono B3.out.size));clear b4 BA;go_upto_region 3 with(refine aM rfl 22 _ _ rfl .u8 w4.heap.size 32 (fun _=>0) D dh rfl rfl (bU rfl (by rfl)) ?_);refine aJ (fun w5=>aQ .u8 w5 (w.heap.size+1) 32 (fun _=>0)/\aQ .u8 w5 w4.heap.size 32 D/\Below w.heap.size w w5) ⟨(RY.out.alloc _).aG _ (Nat.ne_of_lt RY.out.lt) _,(show aQ .u8 (w4.alloc (.cells (arr .u8 32 (fun _=>0)) 22)) w4.heap.size 32 (fun _=>0) from bU rfl rfl).setRow 32 D,aC (B4.out.alloc B4.out.size _) B4.out.size _⟩ ?_;rintro w5 ⟨h5,h6,b5⟩;have XF:=ak h5;have HD5:=ak h6;have B5:=ak b5;clear h5 h6 b5;obtain⟨x4,hx4⟩:∃x,x=w.heap.size+1:=⟨_,rfl⟩
 have HX4:Hid (w.heap.size<=x4):=ak aH;rw[<-hx4] at XF ⊢;clear hx4
 go_wp2_with (first
  | (refine bq rfl 22 _ rfl .u8 w4.heap.size 32 D 5 dY dh rfl HD5.out ?_)
  | (refine aM rfl 22 _ _ rfl .u8 x4 32 (fun _=>0) D dh rfl rfl XF.out ?_))
 exact bodyPost_ret (bg rfl _ _ .u8 x4 32 _ 5 rfl (XF.out.setRow _ _) dY dh) rfl ⟨rfl,aC B5.out HX4.out _⟩
section
variable {B : Nat} {w w' : World} {p n : Nat} {sd : Nat -> Int} {u v : Value} {l c : List Int} {er : Int}
theorem LK (h:DZ B w p sd n):Calls Tryz.prog 21 #[.pointer (some ⟨p,0,none⟩)] w fun e w'=>e=.returned (.int .i64 (n:Int))/\w'=w:=by
 have HW:=ak (eB h.r);have HC:=ak h.r.cn;clear h
 go_enter Tryz.func21,Tryz.ntmps21
 go_wp2_with fail;refine HW.out.mono ?_;rintro e w1 ⟨rfl,rfl⟩;have cn:=HC.out;go_wp2;go_ret;exact⟨rfl,rfl⟩
end
theorem Gl {P:Program} {o:Oper} {a:Act} {w:World} {T U e:TypeId} {x y:Operand} (ho:o.op=.binOp .neq T x y U) (hx:a.eval x=.pointer none) (hy:a.eval y=.pointer none) (hu:P.underlying T=some (.pointer e)):
  (execOp a.eval o).run P w=.ok (.value (.bool false)) w:=by
 unfold execOp;simp only[ho,hx,hy];simp[go_sem,hu]
theorem Aq (w:World) (sd:Nat->Int) (hs:∀i,i<32->0<=sd i/\sd i<256) (vs:Value) (n:Nat) (f:Nat->Int) (hvs:Rd .u8 w vs n f) (hf:∀i,i<n->0<=f i/\f i<256) (vt:Value) (m:Nat) (g:Nat->Int) (hvt:Rd .u8 w vt m g) (hg:∀i,i<m->0<=g i/\g i<256):
  Calls Tryz.prog 4 #[.agg (arr .u8 32 sd),vs,vt] w fun e w'=>e=.returned (.bool true)/\Below w.heap.size w w':=by
 have ZL:=ak hs;have HVS:=ak hvs;have HVT:=ak hvt;obtain⟨as_,cs,rfl,hcs,_⟩:=hvs;obtain⟨at_,ct,rfl,_⟩:=hvt;obtain⟨s,hs1⟩:∃l,l=mW n f:=⟨_,rfl⟩
 have LS:Hid (s.length=n):=ak (by rw[hs1,fA]);have OS:Hid (okB s):=ak (hs1▸wP fun i hi=>hf i hi);have HSR:Hid (∀w',Below w.heap.size w w'->Rd .u8 w' (.slice as_ n cs) s.length (bf s)):=ak fun w' hb=>by rw[hs1];exact(HVS.out.below hb).mW
 obtain⟨x,hx1⟩:∃l,l=mW m g:=⟨_,rfl⟩
 have LX:Hid (x.length=m):=ak (by rw[hx1,fA]);have OX:Hid (okB x):=ak (hx1▸wP fun i hi=>hg i hi);have HXR:Hid (∀w',Below w.heap.size w w'->Rd .u8 w' (.slice at_ m ct) x.length (bf x)):=ak fun w' hb=>by rw[hx1];exact(HVT.out.below hb).mW
 obtain⟨D0,hD0⟩:∃D,D=mI sd 0:=⟨_,rfl⟩
 obtain⟨D1,hD1⟩:∃D,D=mI sd 1:=⟨_,rfl⟩
 have D0B:Hid (∀i,i<32->0<=D0 i/\D0 i<256):=ak fun i _=>hD0▸Ig sd 0 i;have D1B:Hid (∀i,i<32->0<=D1 i/\D1 i<256):=ak fun i _=>hD1▸Ig sd 1 i;have E0:Hid ((Su.by sd 0).draw 1=(mW 32 D0,0,.by sd 1)):=ak (by show (if isSort 1=true then (mW 32 (mI sd 0),(0:Int),Su.by sd 1) else ([],2,.by sd 0))= _;rw[if_pos aN,hD0]);have E1:Hid ((Su.by sd 1).draw 4=(mW 32 D1,0,.by sd 2)):=ak (by show (if isSort 4=true then (mW 32 (mI sd 1),(0:Int),Su.by sd 2) else ([],2,.by sd 1))= _;rw[if_pos aN,hD1]);have E2:Hid ((Su.by sd 2).draw 0=([],2,.by sd 2)):=ak (by show (if isSort 0=true then (mW 32 (mI sd 2),(0:Int),Su.by sd 3) else ([],2,.by sd 2))= _;rw[if_neg aN]);have E3:Hid ((Su.by sd 2).draw 5=([],2,.by sd 2)):=ak (by show (if isSort 5=true then (mW 32 (mI sd 2),(0:Int),Su.by sd 3) else ([],2,.by sd 2))= _;rw[if_neg aN]);have HD0:Hid (∀w',Calls Tryz.prog 18 #[.agg (arr .u8 32 sd),.int .i64 0] w' fun e w2=>e=.returned (.agg (arr .u8 32 D0))/\Below w'.heap.size w' w2):=ak fun w'=>by
  have:=BZ sd ZL.out 0 aN w';rw[<-hD0] at this;exact this
 have HD1:Hid (∀w',Calls Tryz.prog 18 #[.agg (arr .u8 32 sd),.int .i64 1] w' fun e w2=>e=.returned (.agg (arr .u8 32 D1))/\Below w'.heap.size w' w2):=ak fun w'=>by
  have:=BZ sd ZL.out 1 aN w';rw[<-hD1] at this;exact this
 obtain⟨SB,xu⟩:∃D,D=gJ x.length (bf x):=⟨_,rfl⟩
 have SBB:Hid (∀i,i<64->0<=SB i/\SB i<256):=ak fun i hi=>xu▸fM _ _ i;have uq:Hid (gJ x.length (bf x)=SB):=ak xu.symm;clear hs hf hg hs1 hx1 hD0 hD1 xu
 go_enter Tryz.func4,Tryz.ntmps4
 go_upto_region 1 with(fail);refine aJ (fun w1=>aQ .u8 w1 w.heap.size 32 sd/\Below w.heap.size w w1) ⟨bU rfl rfl,(bT _ _).alloc (bB _) _⟩ ?_;rintro w1 ⟨h3,b1⟩;have H31:=ak h3;have B1:=ak b1;obtain⟨x3,hx3⟩:∃x,x=w.heap.size:=⟨_,rfl⟩
 rw[<-hx3] at H31 ⊢;clear h3 b1 hx3;go_wp2_with fail;refine(Zu w1).mono ?_;rintro e w0 ⟨rfl,b2⟩;have H30:=ak (H31.out.kept b2);have B0:=ak (B1.out.trans (b2.mono B1.out.size));clear b2 H31;by_cases agA:100<n
 ·have q:(100:Int)<(n:Int):=by omega
  clear agA;go_wp2;go_ret;exact⟨rfl,B0.out⟩
 have HN:Hid (n<=100):=ak aH;have q:¬ (100:Int)<(n:Int):=by omega
 clear agA;by_cases agz:200<m
 ·have q2:(200:Int)<(m:Int):=by omega
  clear agz;go_wp2;go_ret;exact⟨rfl,B0.out⟩
 have HM:Hid (m<=200):=ak aH;have q2:¬ (200:Int)<(m:Int):=by omega
 clear agz;go_wp2_with (refine bq rfl 22 _ rfl .u8 x3 32 sd 5 dY dh rfl H30.out ?_);refine(yS sd ZL.out w0).mono ?_;rintro e w10 ⟨p,rfl,h5,b4⟩;have aeb:=B0.out.trans (b4.mono B0.out.size);have N0:Hid (WX w0 w0.heap.size w10 p (fun _=>False) (.by sd 0) [(.slice as_ n cs,s),(.slice at_ m ct,x)]):=ak ⟨⟨h5,fun _ h=>h⟩,b4,fun j v l hj=>by
  rcases j with _ | _ | j
  ·cases hj;exact⟨OS.out,HSR.out _ aeb,fun _ _ _ hf=>hf⟩
  ·cases hj;exact⟨OX.out,HXR.out _ aeb,fun _ _ _ hf=>hf⟩
  ·exact absurd hj aR,bB _⟩
 have HK3:Hid (∀w' p F X L,WX w0 w0.heap.size w' p F X L->aQ .u8 w' x3 32 sd):=ak fun w' p F X L h=>H30.out.kept h.b;clear h5 b4 aeb;go_wp2_with fail;have C:=ak (qF (X:=.by sd 0) N0.out.m 1 (show 0<=900 by decide));rw[E0.out] at C;refine C.out.mono ?_;rintro e Xt ⟨u,rfl,r⟩;obtain⟨F1,n_⟩:=N0.out.step r;have N1:=ak n_;obtain⟨aa,ca,rfl⟩:=(n_.y 0 _ _ rfl).slice;clear r n_ C;go_wp2_with fail;have C:=ak (qF (X:=.by sd 1) N1.out.m 4 (show 1<=900 by decide));rw[E1.out] at C;refine C.out.mono ?_;rintro e w12 ⟨u,rfl,r⟩;obtain⟨F2,n_⟩:=N1.out.step r;have N2:=ak n_;obtain⟨ab,cb,rfl⟩:=(n_.y 0 _ _ rfl).slice;clear r n_ C;go_wp2_with fail;have C:=ak (qF (X:=.by sd 2) N2.out.m 0 (show 2<=900 by decide));rw[E2.out] at C;refine C.out.mono ?_;rintro e w13 ⟨u,rfl,r⟩;obtain⟨F3,n_⟩:=N2.out.step r;have N3:=ak n_;obtain⟨az,cz,rfl⟩:=(n_.y 0 _ _ rfl).slice;clear r n_ C;go_wp2_with fail;have C:=ak (qF (X:=.by sd 2) N3.out.m 5 (show 2<=900 by decide));rw[E3.out] at C;refine C.out.mono ?_;rintro e ZV ⟨u,rfl,r⟩;obtain⟨F4,n_⟩:=N3.out.step r;have N4:=ak n_;obtain⟨azz,czz,rfl⟩:=(n_.y 0 _ _ rfl).slice;clear r n_ C;have Lc:Hid (∀D:Nat->Int,(∀i,i<32->0<=D i/\D i<256)->∀w',Calls Tryz.prog 14 #[.agg (arr .u8 32 D)] w' fun e wz=> ∃u,e=.returned u/\Rd .u8 wz u 32 D/\Below w'.heap.size w' wz):=ak fun D hD w'=>by
  refine(Bb D hD w'.heap.size w' (bB _)).mono ?_;rintro e wz ⟨u,rfl,h,b⟩;exact⟨u,rfl,h.rd,b⟩
 have HS0:Hid (∀w' t,Below ZV.heap.size ZV w'->Rd .u8 w' t 32 D0->Calls Tryz.prog 19 #[.slice aa 32 ca,t] w' fun e wz=>e=.returned (.bool true)/\Below w'.heap.size w' wz):=ak fun w' t hb' ht=>by
  have h:=((N4.out.y 3 _ _ rfl).below hb').rd;rw[fA] at h;exact jC _ _ _ _ _ w' h ht fun i hi=>oo hi
 have IC:Hid (∀w' t,Below ZV.heap.size ZV w'->Rd .u8 w' t 32 D1->Calls Tryz.prog 19 #[.slice ab 32 cb,t] w' fun e wz=>e=.returned (.bool true)/\Below w'.heap.size w' wz):=ak fun w' t hb' ht=>by
  have h:=((N4.out.y 2 _ _ rfl).below hb').rd;rw[fA] at h;exact jC _ _ _ _ _ w' h ht fun i hi=>oo hi
 have HDW:Hid (∀w',Below ZV.heap.size ZV w'->Calls Tryz.prog 21 #[.pointer (some ⟨p,0,none⟩)] w' fun e wz=>e=.returned (.int .i64 2)/\Below w'.heap.size w' wz):=ak fun w' hb'=>by
  refine(LK ((N4.out.below hb').m.1)).mono ?_;rintro e wz ⟨rfl,rfl⟩;exact⟨rfl,bT _ _⟩
 have HST:Hid (∀w',Below ZV.heap.size ZV w'->Calls Tryz.prog 27 #[.pointer (some ⟨p,0,none⟩)] w' fun e wz=>e=.returned (.pointer none)/\Below w'.heap.size w' wz):=ak fun w' hb'=>by
  refine(LJ ((N4.out.below hb').m)).mono ?_;rintro e wz ⟨rfl,rfl⟩;exact⟨rfl,bT _ _⟩
 have h3:=HK3.out _ _ _ _ _ N4.out;go_upto_region 10 with(fail)
 refine aX (n:=286) aS aS aS rfl
  (fun ii vv ww=>(match ii with | 0 | 3=>vv=.int .i64 (0) | 1 | 2 | 4 | 5 | 6 | 8 | 9 | 10 | 12 | 13 | 14 | 20 | 21 | 22 | 28 | 29 | 30 | 33 | 34 | 35 | 38 | 39=>vv=.bool false | 7 | 11 | 32=>vv=.int .i64 (2) | 15=>vv=.slice aa 32 ca | 16 | 24=>vv=.agg (arr .u8 32 (sd)) | 17=>vv=.agg (arr .u8 32 (D0)) | 19 | 27=>vv=.bool true | 23=>vv=.slice ab 32 cb | 25=>vv=.agg (arr .u8 32 (D1)) | 31 | 36=>vv=.pointer (some ⟨p,0,none⟩) | 37=>vv=.pointer none | _=>True)/\(ii=18->Rd .u8 ww vv 32 (D0))/\(ii=26->Rd .u8 ww vv 32 (D1)))
  (fun w w'=>Below w.heap.size w w') (fun _ _ h=>h) (fun i v w w' h hE=>⟨h.1,fun e=>Rd.below (h.2.1 e) hE,fun e=>Rd.below (h.2.2 e) hE⟩) ?_ ?_
 ·refine cB ?_;refine⟨?_,?_,?_,?_,?_,?_,?_,?_,?_,?_,?_,?_,?_,?_,?_,?_,?_,?_,?_,?_,?_,?_,?_,?_,?_,?_,?_,?_,?_,?_,?_,?_,?_,?_,?_,?_,?_,?_,?_,?_,trivial⟩
  ·intro a w2 hB hF hd;exact aO <| aB _ (.inl rfl) aR ⟨(hF.same 9 rfl),aL,aL⟩
  ·intro a w2 hB hF hd;exact aO <| aT (Go.bC.iD rfl ((hd 0 _ rfl (aj rfl)).1) rfl) ⟨(congrArg Value.bool aN),aL,aL⟩
  ·intro a w2 hB hF hd;exact aO <| aB _ (.inl rfl) aR ⟨((hd 1 _ rfl (aj rfl)).1),aL,aL⟩
  ·intro a w2 hB hF hd;refine aI (aK rfl rfl ((hd 2 _ rfl (aj rfl)).1) rfl) ?_;exact aB _ (.inl rfl) aR ⟨(hF.same 11 rfl),aL,aL⟩
  ·intro a w2 hB hF hd;refine aI (aK rfl rfl ((hd 2 _ rfl (aj rfl)).1) rfl) ?_;exact aT (Go.bC.iD rfl ((hd 3 _ rfl (aj rfl)).1) rfl) ⟨(congrArg Value.bool aN),aL,aL⟩
  ·intro a w2 hB hF hd;exact aO <| aT (bZ rfl ((hd 2 _ rfl (aj rfl)).1)) ⟨(((hd 4 _ rfl (aj rfl)).1)),aL,aL⟩
  ·intro a w2 hB hF hd;exact aO <| aB _ (.inl rfl) aR ⟨((hd 5 _ rfl (aj rfl)).1),aL,aL⟩
  ·intro a w2 hB hF hd;refine aI (aK rfl rfl ((hd 6 _ rfl (aj rfl)).1) rfl) ?_;exact aB _ (.inl rfl) aR ⟨(hF.same 13 rfl),aL,aL⟩
  ·intro a w2 hB hF hd;refine aI (aK rfl rfl ((hd 6 _ rfl (aj rfl)).1) rfl) ?_;exact aT (Go.bC.iD rfl ((hd 7 _ rfl (aj rfl)).1) rfl) ⟨(congrArg Value.bool aN),aL,aL⟩
  ·intro a w2 hB hF hd;exact aO <| aT (bZ rfl ((hd 6 _ rfl (aj rfl)).1)) ⟨(((hd 8 _ rfl (aj rfl)).1)),aL,aL⟩
  ·intro a w2 hB hF hd;exact aO <| aB _ (.inl rfl) aR ⟨((hd 9 _ rfl (aj rfl)).1),aL,aL⟩
  ·intro a w2 hB hF hd;refine aI (aK rfl rfl ((hd 10 _ rfl (aj rfl)).1) rfl) ?_;exact aB _ (.inl rfl) aR ⟨(hF.same 15 rfl),aL,aL⟩
  ·intro a w2 hB hF hd;refine aI (aK rfl rfl ((hd 10 _ rfl (aj rfl)).1) rfl) ?_;exact aT (Go.bC.iD rfl ((hd 11 _ rfl (aj rfl)).1) rfl) ⟨(congrArg Value.bool aN),aL,aL⟩
  ·intro a w2 hB hF hd;exact aO <| aT (bZ rfl ((hd 10 _ rfl (aj rfl)).1)) ⟨(((hd 12 _ rfl (aj rfl)).1)),aL,aL⟩
  ·intro a w2 hB hF hd;exact aO <| aB _ (.inl rfl) aR ⟨((hd 13 _ rfl (aj rfl)).1),aL,aL⟩
  ·intro a w2 hB hF hd;refine aI (aK rfl rfl ((hd 14 _ rfl (aj rfl)).1) rfl) ?_;exact aB _ (.inl rfl) aR ⟨(hF.same 8 rfl),aL,aL⟩
  ·intro a w2 hB hF hd;refine aI (aK rfl rfl ((hd 14 _ rfl (aj rfl)).1) rfl) ?_;exact aT (aF rfl dY rfl dh (hF.same 3 rfl) (h3.below hB h3.lt)) ⟨rfl,aL,aL⟩
  ·intro a w2 hB hF hd;refine aI (aK rfl rfl ((hd 14 _ rfl (aj rfl)).1) rfl) ?_;refine aD _ _ _ rfl Tryz.call18 _ (args2 ((hd 16 _ rfl (aj rfl)).1) rfl) aR ((HD0.out w2).mono ?_);rintro e w3 ⟨rfl,hb⟩;exact⟨_,rfl,⟨rfl,aL,aL⟩,hb⟩
  ·intro a w2 hB hF hd;refine aI (aK rfl rfl ((hd 14 _ rfl (aj rfl)).1) rfl) ?_;refine aD _ _ _ rfl Tryz.call14 _ (args1 ((hd 17 _ rfl (aj rfl)).1)) aR ((Lc.out D0 D0B.out w2).mono ?_);rintro e w3 ⟨u,rfl,hr,hb⟩;exact⟨u,rfl,⟨trivial,fun _=>hr,aL⟩,hb⟩
  ·intro a w2 hB hF hd;refine aI (aK rfl rfl ((hd 14 _ rfl (aj rfl)).1) rfl) ?_;refine aD _ _ _ rfl Tryz.call19 _ (args2 ((hd 15 _ rfl (aj rfl)).1) rfl) aR ((HS0.out w2 _ hB ((hd 18 _ rfl (aj rfl)).2.1 rfl)).mono ?_);rintro e w3 ⟨rfl,hb⟩;exact⟨_,rfl,⟨rfl,aL,aL⟩,hb⟩
  ·intro a w2 hB hF hd;refine aI (aK rfl rfl ((hd 14 _ rfl (aj rfl)).1) rfl) ?_;exact aT (iO rfl ((hd 19 _ rfl (aj rfl)).1)) ⟨rfl,aL,aL⟩
  ·intro a w2 hB hF hd;exact aO <| aT (bZ rfl ((hd 14 _ rfl (aj rfl)).1)) ⟨(((hd 20 _ rfl (aj rfl)).1)),aL,aL⟩
  ·intro a w2 hB hF hd;exact aO <| aB _ (.inl rfl) aR ⟨((hd 21 _ rfl (aj rfl)).1),aL,aL⟩
  ·intro a w2 hB hF hd;refine aI (aK rfl rfl ((hd 22 _ rfl (aj rfl)).1) rfl) ?_;exact aB _ (.inl rfl) aR ⟨(hF.same 10 rfl),aL,aL⟩
  ·intro a w2 hB hF hd;refine aI (aK rfl rfl ((hd 22 _ rfl (aj rfl)).1) rfl) ?_;exact aT (aF rfl dY rfl dh (hF.same 3 rfl) (h3.below hB h3.lt)) ⟨rfl,aL,aL⟩
  ·intro a w2 hB hF hd;refine aI (aK rfl rfl ((hd 22 _ rfl (aj rfl)).1) rfl) ?_;refine aD _ _ _ rfl Tryz.call18 _ (args2 ((hd 24 _ rfl (aj rfl)).1) rfl) aR ((HD1.out w2).mono ?_);rintro e w3 ⟨rfl,hb⟩;exact⟨_,rfl,⟨rfl,aL,aL⟩,hb⟩
  ·intro a w2 hB hF hd;refine aI (aK rfl rfl ((hd 22 _ rfl (aj rfl)).1) rfl) ?_;refine aD _ _ _ rfl Tryz.call14 _ (args1 ((hd 25 _ rfl (aj rfl)).1)) aR ((Lc.out D1 D1B.out w2).mono ?_);rintro e w3 ⟨u,rfl,hr,hb⟩;exact⟨u,rfl,⟨trivial,aL,fun _=>hr⟩,hb⟩
  ·intro a w2 hB hF hd;refine aI (aK rfl rfl ((hd 22 _ rfl (aj rfl)).1) rfl) ?_;refine aD _ _ _ rfl Tryz.call19 _ (args2 ((hd 23 _ rfl (aj rfl)).1) rfl) aR ((IC.out w2 _ hB ((hd 26 _ rfl (aj rfl)).2.2 rfl)).mono ?_);rintro e w3 ⟨rfl,hb⟩;exact⟨_,rfl,⟨rfl,aL,aL⟩,hb⟩
  ·intro a w2 hB hF hd;refine aI (aK rfl rfl ((hd 22 _ rfl (aj rfl)).1) rfl) ?_;exact aT (iO rfl ((hd 27 _ rfl (aj rfl)).1)) ⟨rfl,aL,aL⟩
  ·intro a w2 hB hF hd;exact aO <| aT (bZ rfl ((hd 22 _ rfl (aj rfl)).1)) ⟨(((hd 28 _ rfl (aj rfl)).1)),aL,aL⟩
  ·intro a w2 hB hF hd;exact aO <| aB _ (.inl rfl) aR ⟨((hd 29 _ rfl (aj rfl)).1),aL,aL⟩
  ·intro a w2 hB hF hd;refine aI (aK rfl rfl ((hd 30 _ rfl (aj rfl)).1) rfl) ?_;exact aB _ (.inl rfl) aR ⟨(hF.same 7 rfl),aL,aL⟩
  ·intro a w2 hB hF hd;refine aI (aK rfl rfl ((hd 30 _ rfl (aj rfl)).1) rfl) ?_;refine aD _ _ _ rfl Tryz.call21 _ (args1 ((hd 31 _ rfl (aj rfl)).1)) aR ((HDW.out w2 hB).mono ?_);rintro e w3 ⟨rfl,hb⟩;exact⟨_,rfl,⟨rfl,aL,aL⟩,hb⟩
  ·intro a w2 hB hF hd;refine aI (aK rfl rfl ((hd 30 _ rfl (aj rfl)).1) rfl) ?_;exact aT (Go.bC.iD rfl ((hd 32 _ rfl (aj rfl)).1) rfl) ⟨(congrArg Value.bool aN),aL,aL⟩
  ·intro a w2 hB hF hd;exact aO <| aT (bZ rfl ((hd 30 _ rfl (aj rfl)).1)) ⟨(((hd 33 _ rfl (aj rfl)).1)),aL,aL⟩
  ·intro a w2 hB hF hd;exact aO <| aB _ (.inl rfl) aR ⟨((hd 34 _ rfl (aj rfl)).1),aL,aL⟩
  ·intro a w2 hB hF hd;refine aI (aK rfl rfl ((hd 35 _ rfl (aj rfl)).1) rfl) ?_;exact aB _ (.inl rfl) aR ⟨(hF.same 7 rfl),aL,aL⟩
  ·intro a w2 hB hF hd;refine aI (aK rfl rfl ((hd 35 _ rfl (aj rfl)).1) rfl) ?_;refine aD _ _ _ rfl Tryz.call27 _ (args1 ((hd 36 _ rfl (aj rfl)).1)) aR ((HST.out w2 hB).mono ?_);rintro e w3 ⟨rfl,hb⟩;exact⟨_,rfl,⟨rfl,aL,aL⟩,hb⟩
  ·intro a w2 hB hF hd;refine aI (aK rfl rfl ((hd 35 _ rfl (aj rfl)).1) rfl) ?_;exact aT (Gl rfl ((hd 37 _ rfl (aj rfl)).1) rfl Tryz.underlying43) ⟨rfl,aL,aL⟩
  ·intro a w2 hB hF hd;exact aO <| aT (bZ rfl ((hd 35 _ rfl (aj rfl)).1)) ⟨(((hd 38 _ rfl (aj rfl)).1)),aL,aL⟩
 ·intro a w15 hB hF hS;obtain⟨x78,acn⟩:∃x,x=a.tmps.getD 78 undef:=⟨_,rfl⟩
  have P78:Rd .u8 w15 x78 32 (D0):=by rw[acn];exact(hS 18 _ rfl).2.1 rfl
  obtain⟨x86,acj⟩:∃x,x=a.tmps.getD 86 undef:=⟨_,rfl⟩
  have P86:Rd .u8 w15 x86 32 (D1):=by rw[acj];exact(hS 26 _ rfl).2.2 rfl
  have ha:=aP rfl rfl hF [_,_,_,_,_,_,_,_,_,_,_,_,_,_,_,_,_,_,x78,_,_,_,_,_,_,_,x86,_,_,_,_,_,_,_,_,_,_,_,_,_] rfl ⟨(hS 0 _ rfl).1,(hS 1 _ rfl).1,(hS 2 _ rfl).1,(hS 3 _ rfl).1,(hS 4 _ rfl).1,(hS 5 _ rfl).1,(hS 6 _ rfl).1,(hS 7 _ rfl).1,(hS 8 _ rfl).1,(hS 9 _ rfl).1,(hS 10 _ rfl).1,(hS 11 _ rfl).1,(hS 12 _ rfl).1,(hS 13 _ rfl).1,(hS 14 _ rfl).1,(hS 15 _ rfl).1,(hS 16 _ rfl).1,(hS 17 _ rfl).1,acn.symm,(hS 19 _ rfl).1,(hS 20 _ rfl).1,(hS 21 _ rfl).1,(hS 22 _ rfl).1,(hS 23 _ rfl).1,(hS 24 _ rfl).1,(hS 25 _ rfl).1,acj.symm,(hS 27 _ rfl).1,(hS 28 _ rfl).1,(hS 29 _ rfl).1,(hS 30 _ rfl).1,(hS 31 _ rfl).1,(hS 32 _ rfl).1,(hS 33 _ rfl).1,(hS 34 _ rfl).1,(hS 35 _ rfl).1,(hS 36 _ rfl).1,(hS 37 _ rfl).1,(hS 38 _ rfl).1,(hS 39 _ rfl).1,trivial⟩;simp only[puts,Act.put,dK,dL,dM] at ha;subst ha;clear acn acj;clear hS hF;have N5:=ak (N4.out.below hB);clear hB HS0 IC HDW HST h3
  try clear P78 P86
  go_wp2_with fail;have C:=ak (Jp N5.out.m (N5.out.y 5 _ _ rfl) (by have:=LX.out;have:=HM.out;omega));refine C.out.mono ?_;rintro e w16 ⟨u,rfl,y_,b_⟩;have N6:=ak (N5.out.more b_ y_);obtain⟨ad,cd,rfl⟩:=y_.slice;clear y_ b_ C;replace N6:=uq.out▸N6;go_wp2_with fail;have C:=ak (PW N6.out.m (N6.out.y 6 _ _ rfl) (by have:=LX.out;have:=HM.out;omega));refine C.out.mono ?_;rintro e w17 ⟨u,rfl,y_,b_⟩;have N7:=ak (N6.out.more b_ y_);obtain⟨att,ctt,rfl⟩:=y_.slice;clear y_ b_ C;go_wp2_with fail;have C:=ak (PS N7.out.m (N7.out.y 0 _ _ rfl) (by have:=LX.out;have:=HM.out;omega));refine C.out.mono ?_;rintro e ZU ⟨u,rfl,y_,b_⟩;have N8:=ak (N7.out.more b_ y_);obtain⟨auu,cuu,rfl⟩:=y_.slice;clear y_ b_ C;have Lj:Hid (∀w',Below ZU.heap.size ZU w'->Calls Tryz.prog 32 #[.slice at_ m ct] w' fun e wz=>e=.returned (.agg (arr .u8 64 SB))/\Below w'.heap.size w' wz):=ak fun w' hb'=>by
   have hr:=((N8.out.y 8 _ _ rfl).below hb').rd;have hok:=OX.out;have:=pX _ x.length (bf x) w' hr (by have:=LX.out;have:=HM.out;omega) (fun i hi=>hok.at i hi)
   rwa [uq.out] at this
  have HLI:Hid (∀w',Calls Tryz.prog 31 #[.agg (arr .u8 64 SB)] w' fun e wz=> ∃u,e=.returned u/\Rd .u8 wz u 64 SB/\Below w'.heap.size w' wz):=ak fun w'=>by
   refine(uh SB SBB.out w').mono ?_;rintro e wz ⟨u,rfl,h,b⟩;exact⟨u,rfl,h.rd,b⟩
  have IC:Hid (∀w' t,Below ZU.heap.size ZU w'->Rd .u8 w' t 32 SB->Calls Tryz.prog 19 #[.slice ad 32 cd,t] w' fun e wz=>e=.returned (.bool true)/\Below w'.heap.size w' wz):=ak fun w' t hb' ht=>by
   have h:=((N8.out.y 2 _ _ rfl).below hb').rd;rw[fA] at h;exact jC _ _ _ _ _ w' h ht fun i hi=>oo hi
  have HS2:Hid (∀w',Below ZU.heap.size ZU w'->Calls Tryz.prog 19 #[.slice att x.length ctt,.slice at_ m ct] w' fun e wz=>e=.returned (.bool true)/\Below w'.heap.size w' wz):=ak fun w' hb'=>jC _ _ _ _ _ w' ((N8.out.y 1 _ _ rfl).below hb').rd ((N8.out.y 8 _ _ rfl).below hb').rd fun _ _=>rfl;have HS3:Hid (∀w',Below ZU.heap.size ZU w'->Calls Tryz.prog 19 #[.slice auu x.length cuu,.slice at_ m ct] w' fun e wz=>e=.returned (.bool true)/\Below w'.heap.size w' wz):=ak fun w' hb'=>jC _ _ _ _ _ w' ((N8.out.y 0 _ _ rfl).below hb').rd ((N8.out.y 8 _ _ rfl).below hb').rd fun _ _=>rfl;obtain⟨lx,hlx⟩:∃n,n=x.length:=⟨_,rfl⟩
  rw[<-hlx] at HS2 HS3 ⊢;clear hlx;go_upto_region 15 with(fail)
  refine aX (n:=286) aS aS aS rfl
   (fun ii vv ww=>(match ii with | 0 | 3 | 7=>vv=.int .i64 (0) | 1 | 2 | 4 | 5 | 6 | 8 | 9 | 10 | 17 | 18 | 19 | 23 | 24 | 25 | 29 | 30=>vv=.bool false | 11=>vv=.slice ad 32 cd | 12 | 21 | 27=>vv=.slice at_ m ct | 13=>vv=.agg (arr .u8 64 (SB)) | 16 | 22 | 28=>vv=.bool true | 20=>vv=.slice att lx ctt | 26=>vv=.slice auu lx cuu | _=>True)/\(ii=14->Rd .u8 ww vv 64 (SB))/\(ii=15->Rd .u8 ww vv 32 (SB)))
   (fun w w'=>Below w.heap.size w w') (fun _ _ h=>h) (fun i v w w' h hE=>⟨h.1,fun e=>Rd.below (h.2.1 e) hE,fun e=>Rd.below (h.2.2 e) hE⟩) ?_ ?_
  ·refine cB ?_;refine⟨?_,?_,?_,?_,?_,?_,?_,?_,?_,?_,?_,?_,?_,?_,?_,?_,?_,?_,?_,?_,?_,?_,?_,?_,?_,?_,?_,?_,?_,?_,?_,trivial⟩
   ·intro a w2 hB hF hd;exact aO <| aB _ (.inl rfl) aR ⟨(hF.same 9 rfl),aL,aL⟩
   ·intro a w2 hB hF hd;exact aO <| aT (Go.bC.iD rfl ((hd 0 _ rfl (aj rfl)).1) rfl) ⟨(congrArg Value.bool aN),aL,aL⟩
   ·intro a w2 hB hF hd;exact aO <| aB _ (.inl rfl) aR ⟨((hd 1 _ rfl (aj rfl)).1),aL,aL⟩
   ·intro a w2 hB hF hd;refine aI (aK rfl rfl ((hd 2 _ rfl (aj rfl)).1) rfl) ?_;exact aB _ (.inl rfl) aR ⟨(hF.same 11 rfl),aL,aL⟩
   ·intro a w2 hB hF hd;refine aI (aK rfl rfl ((hd 2 _ rfl (aj rfl)).1) rfl) ?_;exact aT (Go.bC.iD rfl ((hd 3 _ rfl (aj rfl)).1) rfl) ⟨(congrArg Value.bool aN),aL,aL⟩
   ·intro a w2 hB hF hd;exact aO <| aT (bZ rfl ((hd 2 _ rfl (aj rfl)).1)) ⟨(((hd 4 _ rfl (aj rfl)).1)),aL,aL⟩
   ·intro a w2 hB hF hd;exact aO <| aB _ (.inl rfl) aR ⟨((hd 5 _ rfl (aj rfl)).1),aL,aL⟩
   ·intro a w2 hB hF hd;refine aI (aK rfl rfl ((hd 6 _ rfl (aj rfl)).1) rfl) ?_;exact aB _ (.inl rfl) aR ⟨(hF.same 13 rfl),aL,aL⟩
   ·intro a w2 hB hF hd;refine aI (aK rfl rfl ((hd 6 _ rfl (aj rfl)).1) rfl) ?_;exact aT (Go.bC.iD rfl ((hd 7 _ rfl (aj rfl)).1) rfl) ⟨(congrArg Value.bool aN),aL,aL⟩
   ·intro a w2 hB hF hd;exact aO <| aT (bZ rfl ((hd 6 _ rfl (aj rfl)).1)) ⟨(((hd 8 _ rfl (aj rfl)).1)),aL,aL⟩
   ·intro a w2 hB hF hd;exact aO <| aB _ (.inl rfl) aR ⟨((hd 9 _ rfl (aj rfl)).1),aL,aL⟩
   ·intro a w2 hB hF hd;refine aI (aK rfl rfl ((hd 10 _ rfl (aj rfl)).1) rfl) ?_;exact aB _ (.inl rfl) aR ⟨(hF.same 16 rfl),aL,aL⟩
   ·intro a w2 hB hF hd;refine aI (aK rfl rfl ((hd 10 _ rfl (aj rfl)).1) rfl) ?_;exact aB _ (.inl rfl) aR ⟨(hF.same 2 rfl),aL,aL⟩
   ·intro a w2 hB hF hd;refine aI (aK rfl rfl ((hd 10 _ rfl (aj rfl)).1) rfl) ?_;refine aD _ _ _ rfl Tryz.call32 _ (args1 ((hd 12 _ rfl (aj rfl)).1)) aR ((Lj.out w2 hB).mono ?_);rintro e w3 ⟨rfl,hb⟩;exact⟨_,rfl,⟨rfl,aL,aL⟩,hb⟩
   ·intro a w2 hB hF hd;refine aI (aK rfl rfl ((hd 10 _ rfl (aj rfl)).1) rfl) ?_;refine aD _ _ _ rfl Tryz.call31 _ (args1 ((hd 13 _ rfl (aj rfl)).1)) aR ((HLI.out w2).mono ?_);rintro e w3 ⟨u,rfl,hr,hb⟩;exact⟨u,rfl,⟨trivial,fun _=>hr,aL⟩,hb⟩
   ·intro a w2 hB hF hd;refine aI (aK rfl rfl ((hd 10 _ rfl (aj rfl)).1) rfl) ?_;have P_:=((hd 14 _ rfl (aj rfl)).2.1 rfl)
    obtain⟨q_,c_,ev_,h1_,_⟩:=id P_;have G_:=Rd.head (P:=Tryz.prog) lK pI q_ 64 c_ 32 aN h1_;rw[ev_] at P_;exact aT (eY rfl ev_ (by simp only[Option.map_some,Option.map_none];exact G_.1 _)) ⟨trivial,aL,fun _=>(G_.2 _ _ P_)⟩
   ·intro a w2 hB hF hd;refine aI (aK rfl rfl ((hd 10 _ rfl (aj rfl)).1) rfl) ?_;refine aD _ _ _ rfl Tryz.call19 _ (args2 ((hd 11 _ rfl (aj rfl)).1) rfl) aR ((IC.out w2 _ hB ((hd 15 _ rfl (aj rfl)).2.2 rfl)).mono ?_);rintro e w3 ⟨rfl,hb⟩;exact⟨_,rfl,⟨rfl,aL,aL⟩,hb⟩
   ·intro a w2 hB hF hd;refine aI (aK rfl rfl ((hd 10 _ rfl (aj rfl)).1) rfl) ?_;exact aT (iO rfl ((hd 16 _ rfl (aj rfl)).1)) ⟨rfl,aL,aL⟩
   ·intro a w2 hB hF hd;exact aO <| aT (bZ rfl ((hd 10 _ rfl (aj rfl)).1)) ⟨(((hd 17 _ rfl (aj rfl)).1)),aL,aL⟩
   ·intro a w2 hB hF hd;exact aO <| aB _ (.inl rfl) aR ⟨((hd 18 _ rfl (aj rfl)).1),aL,aL⟩
   ·intro a w2 hB hF hd;refine aI (aK rfl rfl ((hd 19 _ rfl (aj rfl)).1) rfl) ?_;exact aB _ (.inl rfl) aR ⟨(hF.same 17 rfl),aL,aL⟩
   ·intro a w2 hB hF hd;refine aI (aK rfl rfl ((hd 19 _ rfl (aj rfl)).1) rfl) ?_;exact aB _ (.inl rfl) aR ⟨(hF.same 2 rfl),aL,aL⟩
   ·intro a w2 hB hF hd;refine aI (aK rfl rfl ((hd 19 _ rfl (aj rfl)).1) rfl) ?_;refine aD _ _ _ rfl Tryz.call19 _ (args2 ((hd 20 _ rfl (aj rfl)).1) ((hd 21 _ rfl (aj rfl)).1)) aR ((HS2.out w2 hB).mono ?_);rintro e w3 ⟨rfl,hb⟩;exact⟨_,rfl,⟨rfl,aL,aL⟩,hb⟩
   ·intro a w2 hB hF hd;refine aI (aK rfl rfl ((hd 19 _ rfl (aj rfl)).1) rfl) ?_;exact aT (iO rfl ((hd 22 _ rfl (aj rfl)).1)) ⟨rfl,aL,aL⟩
   ·intro a w2 hB hF hd;exact aO <| aT (bZ rfl ((hd 19 _ rfl (aj rfl)).1)) ⟨(((hd 23 _ rfl (aj rfl)).1)),aL,aL⟩
   ·intro a w2 hB hF hd;exact aO <| aB _ (.inl rfl) aR ⟨((hd 24 _ rfl (aj rfl)).1),aL,aL⟩
   ·intro a w2 hB hF hd;refine aI (aK rfl rfl ((hd 25 _ rfl (aj rfl)).1) rfl) ?_;exact aB _ (.inl rfl) aR ⟨(hF.same 18 rfl),aL,aL⟩
   ·intro a w2 hB hF hd;refine aI (aK rfl rfl ((hd 25 _ rfl (aj rfl)).1) rfl) ?_;exact aB _ (.inl rfl) aR ⟨(hF.same 2 rfl),aL,aL⟩
   ·intro a w2 hB hF hd;refine aI (aK rfl rfl ((hd 25 _ rfl (aj rfl)).1) rfl) ?_;refine aD _ _ _ rfl Tryz.call19 _ (args2 ((hd 26 _ rfl (aj rfl)).1) ((hd 27 _ rfl (aj rfl)).1)) aR ((HS3.out w2 hB).mono ?_);rintro e w3 ⟨rfl,hb⟩;exact⟨_,rfl,⟨rfl,aL,aL⟩,hb⟩
   ·intro a w2 hB hF hd;refine aI (aK rfl rfl ((hd 25 _ rfl (aj rfl)).1) rfl) ?_;exact aT (iO rfl ((hd 28 _ rfl (aj rfl)).1)) ⟨rfl,aL,aL⟩
   ·intro a w2 hB hF hd;exact aO <| aT (bZ rfl ((hd 25 _ rfl (aj rfl)).1)) ⟨(((hd 29 _ rfl (aj rfl)).1)),aL,aL⟩
  ·intro a w19 hB hF hS;obtain⟨aeK,Vd⟩:∃x,x=a.tmps.getD 132 undef:=⟨_,rfl⟩
   have akP:Rd .u8 w19 aeK 64 (SB):=by rw[Vd];exact(hS 14 _ rfl).2.1 rfl
   obtain⟨aeJ,Vb⟩:∃x,x=a.tmps.getD 133 undef:=⟨_,rfl⟩
   have akO:Rd .u8 w19 aeJ 32 (SB):=by rw[Vb];exact(hS 15 _ rfl).2.2 rfl
   have ha:=aP rfl rfl hF [_,_,_,_,_,_,_,_,_,_,_,_,_,_,aeK,aeJ,_,_,_,_,_,_,_,_,_,_,_,_,_,_,_] rfl ⟨(hS 0 _ rfl).1,(hS 1 _ rfl).1,(hS 2 _ rfl).1,(hS 3 _ rfl).1,(hS 4 _ rfl).1,(hS 5 _ rfl).1,(hS 6 _ rfl).1,(hS 7 _ rfl).1,(hS 8 _ rfl).1,(hS 9 _ rfl).1,(hS 10 _ rfl).1,(hS 11 _ rfl).1,(hS 12 _ rfl).1,(hS 13 _ rfl).1,Vd.symm,Vb.symm,(hS 16 _ rfl).1,(hS 17 _ rfl).1,(hS 18 _ rfl).1,(hS 19 _ rfl).1,(hS 20 _ rfl).1,(hS 21 _ rfl).1,(hS 22 _ rfl).1,(hS 23 _ rfl).1,(hS 24 _ rfl).1,(hS 25 _ rfl).1,(hS 26 _ rfl).1,(hS 27 _ rfl).1,(hS 28 _ rfl).1,(hS 29 _ rfl).1,(hS 30 _ rfl).1,trivial⟩;simp only[puts,Act.put,dK,dL,dM] at ha;subst ha;clear Vd Vb;clear hS hF;have N9:=ak (N8.out.below hB);clear hB Lj HLI IC HS2 HS3
   try clear akP akO
   by_cases h32:n=32
   case neg=>
    have hl:¬ s.length=32:=by rw[LS.out];exact h32
    have Q1:Hid ((Su.by sd 2).pub s=([],11,.by sd 2)):=ak (if_neg hl);have Q2:Hid ((Su.by sd 2).ver s=([],11,.by sd 2)):=ak (if_neg hl);have Q3:Hid (rR lu sd 2 s=([],11,.by sd 2)):=ak (if_neg hl);have Q4:Hid (rR mX sd 2 s=([],11,.by sd 2)):=ak (if_neg hl);have Q5:Hid ((Su.by sd 2).sgn s x=([],11,.by sd 2)):=ak (by
     have e:sI s x=([],11):=if_neg hl;show ((sI s x).1,(sI s x).2,Su.by sd 2)= _;rw[e])
    have q3:((n:Int) !=32)=true:=by simp;omega
    clear hl h32;go_wp2_with fail;have C:=ak (vT (X:=.by sd 2) N9.out.m (N9.out.y 7 _ _ rfl) (show 2<=900 by decide));rw[Q1.out] at C;refine C.out.mono ?_;rintro e w20 ⟨u,rfl,r⟩;obtain⟨F10,n_⟩:=N9.out.step r;have N10:=ak n_;obtain⟨ap,cp,rfl⟩:=(n_.y 0 _ _ rfl).slice;clear r n_ C;go_wp2_with fail;have C:=ak (sj (X:=.by sd 2) N10.out.m (N10.out.y 8 _ _ rfl) (show 2<=900 by decide));rw[Q2.out] at C;refine C.out.mono ?_;rintro e w21 ⟨u,rfl,r⟩;obtain⟨F11,n_⟩:=N10.out.step r;have N11:=ak n_;obtain⟨av,cv,rfl⟩:=(n_.y 0 _ _ rfl).slice;clear r n_ C;go_wp2_with fail;have C:=ak (Em N11.out.m (N11.out.y 9 _ _ rfl));rw[Q3.out] at C;refine C.out.mono ?_;rintro e w22 ⟨u,rfl,r⟩;obtain⟨F12,n_⟩:=N11.out.step r;have N12:=ak n_;obtain⟨an,cn,rfl⟩:=(n_.y 0 _ _ rfl).slice;clear r n_ C;go_wp2_with fail;have C:=ak (En N12.out.m (N12.out.y 10 _ _ rfl));rw[Q4.out] at C;refine C.out.mono ?_;rintro e w23 ⟨u,rfl,r⟩;obtain⟨F13,n_⟩:=N12.out.step r;have Zz:=ak n_;obtain⟨ai,ci,rfl⟩:=(n_.y 0 _ _ rfl).slice;clear r n_ C;go_wp2_with fail;have C:=ak (Au (X:=.by sd 2) Zz.out.m (Zz.out.y 11 _ _ rfl) (Zz.out.y 12 _ _ rfl) (by have:=LX.out;have:=HM.out;omega) (show 2<=900 by decide));rw[Q5.out] at C;refine C.out.mono ?_;rintro e w24 ⟨u,rfl,r⟩;obtain⟨F14,n_⟩:=Zz.out.step r;have N14:=ak n_;obtain⟨ag,cg,rfl⟩:=(n_.y 0 _ _ rfl).slice;clear r n_ C;go_wp2;go_ret;exact⟨rfl,B0.out.trans (N14.out.b.mono B0.out.size)⟩
   case pos=>
    subst h32;obtain⟨S,hS⟩:∃S,S=sm 256 (bf s) 32:=⟨_,rfl⟩
    have HSA:Hid (arr .u8 32 (dg 256 S)=arr .u8 32 (bf s)):=ak (by rw[hS];exact(Ip (fun i hi=>OS.out.at i (by rw[LS.out];exact hi))).symm);have HSI:Hid (∀i,i<32->bf s i=dg 256 S i):=ak fun i hi=>by rw[hS];exact(tJ aN (fun i hi=>OS.out.at i (by rw[LS.out];exact hi)) i hi).symm
    obtain⟨PB,hPB⟩:∃D,D=dg 256 (mulN S 9):=⟨_,rfl⟩
    obtain⟨VB,hVB⟩:∃D,D=dg 256 (qH S):=⟨_,rfl⟩
    obtain⟨NB,hNB⟩:∃D,D=lu (bf s):=⟨_,rfl⟩
    obtain⟨IB,hIB⟩:∃D,D=mX (bf s):=⟨_,rfl⟩
    obtain⟨GB,hGB⟩:∃D,D=CJ S (bf x) x.length:=⟨_,rfl⟩
    have QP:Hid ((Su.by sd 2).pub s=(mW 32 PB,0,.by sd 2)):=ak (by rw[hPB,hS];exact if_pos LS.out);have QV:Hid ((Su.by sd 2).ver s=(mW 32 VB,0,.by sd 2)):=ak (by rw[hVB,hS];exact if_pos LS.out);have Q3:Hid (rR lu sd 2 s=(mW 32 NB,0,.by sd 2)):=ak (by rw[hNB];exact if_pos LS.out);have Q4:Hid (rR mX sd 2 s=(mW 32 IB,0,.by sd 2)):=ak (by rw[hIB];exact if_pos LS.out);have Q5:Hid ((Su.by sd 2).sgn s x=(mW 64 GB,0,.by sd 2)):=ak (by
     have e:sI s x=(mW 64 GB,0):=by rw[hGB,hS];exact if_pos LS.out
     show ((sI s x).1,(sI s x).2,Su.by sd 2)= _;rw[e])
    have Q1:=QP;have Q2:=QV;have PBB:Hid (∀i,i<32->0<=PB i/\PB i<256):=ak fun i _=>hPB▸aV aN _ _;have VBB:Hid (∀i,i<32->0<=VB i/\VB i<256):=ak fun i _=>hVB▸aV aN _ _;have NBB:Hid (∀i,i<32->0<=NB i/\NB i<256):=ak fun i _=>hNB▸nT _ _ _ _ i;have IBB:Hid (∀i,i<32->0<=IB i/\IB i<256):=ak fun i _=>hIB▸nT _ _ _ _ i;have GBB:Hid (∀i,i<64->0<=GB i/\GB i<256):=ak fun i _=>hGB▸Ti _ _ _ i;have RP:Hid (∀w',Calls Tryz.prog 15 #[.agg (arr .u8 32 (dg 256 S))] w' fun e w2=>e=.returned (.agg (arr .u8 32 PB))/\Below w'.heap.size w' w2):=ak fun w'=>hPB▸Gi S w';have RV:Hid (∀w',Calls Tryz.prog 39 #[.agg (arr .u8 32 (dg 256 S))] w' fun e w2=>e=.returned (.agg (arr .u8 32 VB))/\Below w'.heap.size w' w2):=ak fun w'=>hVB▸wB S w';have RN:Hid (∀w',Calls Tryz.prog 40 #[.agg (arr .u8 32 (dg 256 S))] w' fun e w2=>e=.returned (.agg (arr .u8 32 NB))/\Below w'.heap.size w' w2):=ak fun w'=>by
     rw[HSA.out,hNB];exact Qk (bf s) (fun i hi=>OS.out.at i (by rw[LS.out];exact hi)) w'
    have RI:Hid (∀w' v,Rd .u8 w' v 32 (bf s)->Calls Tryz.prog 38 #[v,.string wX,.slice none 0 0] w' fun e w2=>e=.returned (.tuple #[.agg (arr .u8 32 IB),.int .i64 0])/\Below w'.heap.size w' w2):=ak fun w' v hv=>by
     rw[hIB];exact abG v (bf s) (fun i hi=>OS.out.at i (by rw[LS.out];exact hi)) w' hv
    have RG:Hid (∀w' v,Rd .u8 w' v x.length (bf x)->Calls Tryz.prog 41 #[.agg (arr .u8 32 (dg 256 S)),v] w' fun e w2=> ∃u,e=.returned u/\Rd .u8 w2 u 64 GB/\Below w'.heap.size w' w2):=ak fun w' v hv=>by
     rw[hGB];exact Mc S v x.length (bf x) w' hv (by have:=LX.out;have:=HM.out;omega) (fun i hi=>OX.out.at i hi)
    have HOL:Hid ((Su.by sd 2).hol (mW 32 VB) x (mW 64 GB)):=ak ⟨s,by rw[hVB,hS];rfl,by rw[hGB,hS]⟩;clear hS hPB hVB hNB hIB hGB QP QV;have q3:((32:Int) !=32)=false:=by decide
    go_wp2_with fail;have C:=ak (vT (X:=.by sd 2) N9.out.m (N9.out.y 7 _ _ rfl) (show 2<=900 by decide));rw[Q1.out] at C;refine C.out.mono ?_;rintro e w20 ⟨u,rfl,r⟩;obtain⟨F10,n_⟩:=N9.out.step r;have N10:=ak n_;obtain⟨ap,cp,rfl⟩:=(n_.y 0 _ _ rfl).slice;clear r n_ C;go_wp2_with fail;have C:=ak (sj (X:=.by sd 2) N10.out.m (N10.out.y 8 _ _ rfl) (show 2<=900 by decide));rw[Q2.out] at C;refine C.out.mono ?_;rintro e w21 ⟨u,rfl,r⟩;obtain⟨F11,n_⟩:=N10.out.step r;have N11:=ak n_;obtain⟨av,cv,rfl⟩:=(n_.y 0 _ _ rfl).slice;clear r n_ C;go_wp2_with fail;have C:=ak (Em N11.out.m (N11.out.y 9 _ _ rfl));rw[Q3.out] at C;refine C.out.mono ?_;rintro e w22 ⟨u,rfl,r⟩;obtain⟨F12,n_⟩:=N11.out.step r;have N12:=ak n_;obtain⟨an,cn,rfl⟩:=(n_.y 0 _ _ rfl).slice;clear r n_ C;go_wp2_with fail;have C:=ak (En N12.out.m (N12.out.y 10 _ _ rfl));rw[Q4.out] at C;refine C.out.mono ?_;rintro e w23 ⟨u,rfl,r⟩;obtain⟨F13,n_⟩:=N12.out.step r;have Zz:=ak n_;obtain⟨ai,ci,rfl⟩:=(n_.y 0 _ _ rfl).slice;clear r n_ C;go_wp2_with fail;have C:=ak (Au (X:=.by sd 2) Zz.out.m (Zz.out.y 11 _ _ rfl) (Zz.out.y 12 _ _ rfl) (by have:=LX.out;have:=HM.out;omega) (show 2<=900 by decide));rw[Q5.out] at C;refine C.out.mono ?_;rintro e w24 ⟨u,rfl,r⟩;obtain⟨F14,n_⟩:=Zz.out.step r;have N14:=ak n_;obtain⟨ag,cg,rfl⟩:=(n_.y 0 _ _ rfl).slice;clear r n_ C;have YS:=(N14.out.y 12 _ _ rfl).rd;rw[LS.out] at YS;obtain⟨b1,o1,q1,l1,c1⟩:=YS.BK aN;subst q1;have CB:Hid (∀i,i<32->w24.cell? ⟨b1,o1+i,none⟩=some (.int .u8 (dg 256 S i))):=ak fun i hi=>(c1 i hi).trans (by rw[HSI.out i hi]);have HL1:=ak l1;clear YS c1 l1;go_upto_region 24 with(fail)
    refine bG (n:=286) aS aS aS rfl
     (gZ [(4,3)]) (eZ [(4,3)]) (fun _=>arr .u8 32 (fun _=>0)) (fun _=>(arr .u8 32 (dg 256 S))) (fun _=>22) (fun _=>25)
     (fun ii vv _=>(match ii with | 0=>vv=.slice (some ⟨b1,o1,none⟩) 32 cs | 1=>vv=.pointer (some ⟨b1,o1,none⟩) | 2=>vv=.agg (arr .u8 32 (dg 256 S)) | _=>True)) (fun _ _=>True) (fun _ _ _=>trivial) (fun _ _ _ _ _ _ _=>trivial) (fun _ _ _ _ h _=>h)
     (fJ rfl) (dU rfl) ?_ ?_ ?_ ?_
    ·refine cB ?_;refine⟨?_,?_,?_,(fun h=>by cases h),(fun _ h=>by cases h),trivial⟩
     ·intro _ _ a w2 hB hF hd;exact aO <| aB _ (.inl rfl) aR (hF.same 1 rfl)
     ·intro _ _ a w2 hB hF hd;exact aO <| aT (jc rfl (hd 0 _ rfl rfl rfl (aj rfl)) dY aN) rfl
     ·intro _ _ a w2 hB hF hd;exact aO <| aT (gL rfl (hd 1 _ rfl rfl rfl (aj rfl)) dY dh (fun i hi=>(hB.cell (p:=⟨b1,o1+i,none⟩) HL1.out).trans (CB.out i hi))) rfl
    ·refine cB ?_;refine⟨(fun h=>by cases h),(fun h=>by cases h),(fun h=>by cases h),?_,(fun h=>by cases h),trivial⟩
     ·exact fun _=>⟨rfl,rfl,fun a w2 K h=>aZ rfl rfl Tryz.zeroValue22 aR h⟩
    ·refine cB ?_;refine⟨(fun _ h=>by cases h),(fun _ h=>by cases h),(fun _ h=>by cases h),(fun _ h=>by cases h),?_,trivial⟩
     ·intro p hp;obtain rfl:3=p:=iy hp;exact⟨rfl,rfl,⟨_,rfl⟩,aj rfl,fun a w2 b K hB hF hd hx hb h=>bJ rfl rfl dh hx (hd 2 _ rfl rfl rfl (aj rfl)) hb h⟩
    ·intro a w25 blk hB hF hS hv hfin dw;obtain⟨v3,Ah,Le⟩:=hv 3 _ rfl rfl;have ha:=aP rfl rfl hF [_,_,_,_,undef] rfl ⟨hS 0 _ rfl rfl rfl,hS 1 _ rfl rfl rfl,hS 2 _ rfl rfl rfl,v3,trivial,trivial⟩;have f3:=hfin 4 _ 3 rfl rfl;simp only[puts,Act.put,dK,dL,dM] at ha;subst ha;have V3:aQ .u8 w25 (blk 3) 32 (dg 256 S):=⟨_,f3⟩
     clear hS hv hfin dw hF v3 f3;have N15:=ak (N14.out.below hB);obtain⟨y25,e25⟩:∃x,x=blk 3:=⟨_,rfl⟩
     rw[<-e25] at V3 ⊢;have H25:=ak V3;clear V3 Ah Le e25 hB CB HL1;go_wp2_with fail;have C:=ak (RI.out w25 _ (by have h:=(N15.out.y 12 _ _ rfl).rd;rwa [LS.out] at h));refine C.out.mono ?_;rintro e w26 ⟨rfl,b_⟩;have N16:=ak (N15.out.below b_);have alR:=ak (H25.out.kept b_);clear b_ C;go_upto_region 26 with(refine aM rfl 22 _ _ rfl .u8 w26.heap.size 32 (fun _=>0) IB dh rfl rfl (bU rfl (by rfl)) ?_);refine aJ (fun w_=>aQ .u8 w_ w26.heap.size 32 IB/\Below w26.heap.size w26 w_) ⟨(show aQ .u8 (w26.alloc (.cells (arr .u8 32 (fun _=>0)) 22)) w26.heap.size 32 (fun _=>0) from bU rfl rfl).setRow 32 IB,aC ((bT _ _).alloc (bB _) _) (bB _) _⟩ ?_;rintro NY ⟨h26,b_⟩;have WY:=ak (N16.out.below b_);have alQ:=ak (alR.out.kept b_);obtain⟨y26,e26⟩:∃x,x=w26.heap.size:=⟨_,rfl⟩
     rw[<-e26] at h26 ⊢;have H26:=ak h26;clear b_ h26 e26;have akZ:Hid (∀w' t,Below NY.heap.size NY w'->Rd .u8 w' t 32 PB->Calls Tryz.prog 19 #[.slice ap 32 cp,t] w' fun e wz=>e=.returned (.bool true)/\Below w'.heap.size w' wz):=ak fun w' t hb' ht=>by
      have h:=((WY.out.y 4 _ _ rfl).below hb').rd;rw[fA] at h;exact jC _ _ _ _ _ w' h ht fun i hi=>oo hi
     have akW:Hid (∀w' t,Below NY.heap.size NY w'->Rd .u8 w' t 32 VB->Calls Tryz.prog 19 #[.slice av 32 cv,t] w' fun e wz=>e=.returned (.bool true)/\Below w'.heap.size w' wz):=ak fun w' t hb' ht=>by
      have h:=((WY.out.y 3 _ _ rfl).below hb').rd;rw[fA] at h;exact jC _ _ _ _ _ w' h ht fun i hi=>oo hi
     have ala:Hid (∀w' t,Below NY.heap.size NY w'->Rd .u8 w' t 32 NB->Calls Tryz.prog 19 #[.slice an 32 cn,t] w' fun e wz=>e=.returned (.bool true)/\Below w'.heap.size w' wz):=ak fun w' t hb' ht=>by
      have h:=((WY.out.y 2 _ _ rfl).below hb').rd;rw[fA] at h;exact jC _ _ _ _ _ w' h ht fun i hi=>oo hi
     have alb:Hid (∀w' t,Below NY.heap.size NY w'->Rd .u8 w' t 32 IB->Calls Tryz.prog 19 #[.slice ai 32 ci,t] w' fun e wz=>e=.returned (.bool true)/\Below w'.heap.size w' wz):=ak fun w' t hb' ht=>by
      have h:=((WY.out.y 1 _ _ rfl).below hb').rd;rw[fA] at h;exact jC _ _ _ _ _ w' h ht fun i hi=>oo hi
     have alc:Hid (∀w' t,Below NY.heap.size NY w'->Rd .u8 w' t 64 GB->Calls Tryz.prog 19 #[.slice ag 64 cg,t] w' fun e wz=>e=.returned (.bool true)/\Below w'.heap.size w' wz):=ak fun w' t hb' ht=>by
      have h:=((WY.out.y 0 _ _ rfl).below hb').rd;rw[fA] at h;exact jC _ _ _ _ _ w' h ht fun i hi=>oo hi
     have HCK:Hid (∀w',Below NY.heap.size NY w'->Calls Tryz.prog 42 #[.pointer (some ⟨p,0,none⟩),.slice av 32 cv,.slice at_ m ct,.slice ag 64 cg] w' fun e wz=>e=.returned (.int .i64 0)/\Below w'.heap.size w' wz):=ak fun w' hb'=>by
      have h1:=(WY.out.y 3 _ _ rfl).below hb';have h2:=(WY.out.y 0 _ _ rfl).below hb';have:=Jq (X:=.by sd 2) (WY.out.below hb').m h1 ((WY.out.y 13 _ _ rfl).below hb') h2 (by have:=LX.out;have:=HM.out;omega) (show 2<=900 by decide) HOL.out
      rwa [fA,fA] at this
     have HRG:Hid (∀w',Below NY.heap.size NY w'->Calls Tryz.prog 41 #[.agg (arr .u8 32 (dg 256 S)),.slice at_ m ct] w' fun e w2=> ∃u,e=.returned u/\Rd .u8 w2 u 64 GB/\Below w'.heap.size w' w2):=ak fun w' hb'=>RG.out w' _ ((WY.out.y 13 _ _ rfl).below hb').rd;have h25:=alQ.out;have h26:=H26.out;go_upto_region 26 with(fail)
     refine aX (n:=286) aS aS aS rfl
      (fun ii vv ww=>(match ii with | 0 | 3 | 7 | 11 | 15 | 57=>vv=.int .i64 (0) | 1 | 2 | 4 | 5 | 6 | 8 | 9 | 10 | 12 | 13 | 14 | 16 | 17 | 18 | 23 | 24 | 25 | 30 | 31 | 32 | 37 | 38 | 39 | 43 | 44 | 45 | 50 | 51 | 52 | 58 | 59 | 60=>vv=.bool true | 19=>vv=.slice ap 32 cp | 20 | 27 | 34 | 47=>vv=.agg (arr .u8 32 (dg 256 S)) | 21=>vv=.agg (arr .u8 32 (PB)) | 26 | 54=>vv=.slice av 32 cv | 28=>vv=.agg (arr .u8 32 (VB)) | 33=>vv=.slice an 32 cn | 35=>vv=.agg (arr .u8 32 (NB)) | 40=>vv=.slice ai 32 ci | 41=>vv=.agg (arr .u8 32 (IB)) | 46 | 56=>vv=.slice ag 64 cg | 48 | 55=>vv=.slice at_ m ct | 53=>vv=.pointer (some ⟨p,0,none⟩) | _=>True)/\(ii=22->Rd .u8 ww vv 32 (PB))/\(ii=29->Rd .u8 ww vv 32 (VB))/\(ii=36->Rd .u8 ww vv 32 (NB))/\(ii=42->Rd .u8 ww vv 32 (IB))/\(ii=49->Rd .u8 ww vv 64 (GB)))
      (fun w w'=>Below w.heap.size w w') (fun _ _ h=>h) (fun i v w w' h hE=>⟨h.1,fun e=>Rd.below (h.2.1 e) hE,fun e=>Rd.below (h.2.2.1 e) hE,fun e=>Rd.below (h.2.2.2.1 e) hE,fun e=>Rd.below (h.2.2.2.2.1 e) hE,fun e=>Rd.below (h.2.2.2.2.2 e) hE⟩) ?_ ?_
     ·refine cB ?_;refine⟨?_,?_,?_,?_,?_,?_,?_,?_,?_,?_,?_,?_,?_,?_,?_,?_,?_,?_,?_,?_,?_,?_,?_,?_,?_,?_,?_,?_,?_,?_,?_,?_,?_,?_,?_,?_,?_,?_,?_,?_,?_,?_,?_,?_,?_,?_,?_,?_,?_,?_,?_,?_,?_,?_,?_,?_,?_,?_,?_,?_,?_,trivial⟩
      ·intro a w2 hB hF hd;exact aO <| aB _ (.inl rfl) aR ⟨(hF.same 9 rfl),aL,aL,aL,aL,aL⟩
      ·intro a w2 hB hF hd;refine aO <| aT (Go.bC.iF rfl ((hd 0 _ rfl (aj rfl)).1) rfl) ?_;exact⟨rfl,aL,aL,aL,aL,aL⟩
      ·intro a w2 hB hF hd;exact aO <| aB _ (.inl rfl) aR ⟨((hd 1 _ rfl (aj rfl)).1),aL,aL,aL,aL,aL⟩
      ·intro a w2 hB hF hd;refine aI (aK rfl rfl ((hd 2 _ rfl (aj rfl)).1) rfl) ?_;exact aB _ (.inl rfl) aR ⟨(hF.same 11 rfl),aL,aL,aL,aL,aL⟩
      ·intro a w2 hB hF hd;refine aI (aK rfl rfl ((hd 2 _ rfl (aj rfl)).1) rfl) ?_;refine aT (Go.bC.iF rfl ((hd 3 _ rfl (aj rfl)).1) rfl) ?_;exact⟨rfl,aL,aL,aL,aL,aL⟩
      ·intro a w2 hB hF hd;exact aO <| aT (bZ rfl ((hd 2 _ rfl (aj rfl)).1)) ⟨(((hd 4 _ rfl (aj rfl)).1)),aL,aL,aL,aL,aL⟩
      ·intro a w2 hB hF hd;exact aO <| aB _ (.inl rfl) aR ⟨((hd 5 _ rfl (aj rfl)).1),aL,aL,aL,aL,aL⟩
      ·intro a w2 hB hF hd;refine aI (aK rfl rfl ((hd 6 _ rfl (aj rfl)).1) rfl) ?_;exact aB _ (.inl rfl) aR ⟨(hF.same 13 rfl),aL,aL,aL,aL,aL⟩
      ·intro a w2 hB hF hd;refine aI (aK rfl rfl ((hd 6 _ rfl (aj rfl)).1) rfl) ?_;refine aT (Go.bC.iF rfl ((hd 7 _ rfl (aj rfl)).1) rfl) ?_;exact⟨rfl,aL,aL,aL,aL,aL⟩
      ·intro a w2 hB hF hd;exact aO <| aT (bZ rfl ((hd 6 _ rfl (aj rfl)).1)) ⟨(((hd 8 _ rfl (aj rfl)).1)),aL,aL,aL,aL,aL⟩
      ·intro a w2 hB hF hd;exact aO <| aB _ (.inl rfl) aR ⟨((hd 9 _ rfl (aj rfl)).1),aL,aL,aL,aL,aL⟩
      ·intro a w2 hB hF hd;refine aI (aK rfl rfl ((hd 10 _ rfl (aj rfl)).1) rfl) ?_;exact aB _ (.inl rfl) aR ⟨(hF.same 15 rfl),aL,aL,aL,aL,aL⟩
      ·intro a w2 hB hF hd;refine aI (aK rfl rfl ((hd 10 _ rfl (aj rfl)).1) rfl) ?_;refine aT (Go.bC.iF rfl ((hd 11 _ rfl (aj rfl)).1) rfl) ?_;exact⟨rfl,aL,aL,aL,aL,aL⟩
      ·intro a w2 hB hF hd;exact aO <| aT (bZ rfl ((hd 10 _ rfl (aj rfl)).1)) ⟨(((hd 12 _ rfl (aj rfl)).1)),aL,aL,aL,aL,aL⟩
      ·intro a w2 hB hF hd;exact aO <| aB _ (.inl rfl) aR ⟨((hd 13 _ rfl (aj rfl)).1),aL,aL,aL,aL,aL⟩
      ·intro a w2 hB hF hd;refine aI (aK rfl rfl ((hd 14 _ rfl (aj rfl)).1) rfl) ?_;exact aB _ (.inl rfl) aR ⟨(hF.same 24 rfl),aL,aL,aL,aL,aL⟩
      ·intro a w2 hB hF hd;refine aI (aK rfl rfl ((hd 14 _ rfl (aj rfl)).1) rfl) ?_;refine aT (Go.bC.iF rfl ((hd 15 _ rfl (aj rfl)).1) rfl) ?_;exact⟨rfl,aL,aL,aL,aL,aL⟩
      ·intro a w2 hB hF hd;exact aO <| aT (bZ rfl ((hd 14 _ rfl (aj rfl)).1)) ⟨(((hd 16 _ rfl (aj rfl)).1)),aL,aL,aL,aL,aL⟩
      ·intro a w2 hB hF hd;exact aO <| aB _ (.inl rfl) aR ⟨((hd 17 _ rfl (aj rfl)).1),aL,aL,aL,aL,aL⟩
      ·intro a w2 hB hF hd;refine aI (aK rfl rfl ((hd 18 _ rfl (aj rfl)).1) rfl) ?_;exact aB _ (.inl rfl) aR ⟨(hF.same 19 rfl),aL,aL,aL,aL,aL⟩
      ·intro a w2 hB hF hd;refine aI (aK rfl rfl ((hd 18 _ rfl (aj rfl)).1) rfl) ?_;exact aT (aF rfl dY rfl dh (hF.same 25 rfl) (h25.below hB h25.lt)) ⟨rfl,aL,aL,aL,aL,aL⟩
      ·intro a w2 hB hF hd;refine aI (aK rfl rfl ((hd 18 _ rfl (aj rfl)).1) rfl) ?_;refine aD _ _ _ rfl Tryz.call15 _ (args1 ((hd 20 _ rfl (aj rfl)).1)) aR ((RP.out w2).mono ?_);rintro e w3 ⟨rfl,hb⟩;exact⟨_,rfl,⟨rfl,aL,aL,aL,aL,aL⟩,hb⟩
      ·intro a w2 hB hF hd;refine aI (aK rfl rfl ((hd 18 _ rfl (aj rfl)).1) rfl) ?_;refine aD _ _ _ rfl Tryz.call14 _ (args1 ((hd 21 _ rfl (aj rfl)).1)) aR ((Lc.out PB PBB.out w2).mono ?_);rintro e w3 ⟨u,rfl,hr,hb⟩;exact⟨u,rfl,⟨trivial,fun _=>hr,aL,aL,aL,aL⟩,hb⟩
      ·intro a w2 hB hF hd;refine aI (aK rfl rfl ((hd 18 _ rfl (aj rfl)).1) rfl) ?_;refine aD _ _ _ rfl Tryz.call19 _ (args2 ((hd 19 _ rfl (aj rfl)).1) rfl) aR ((akZ.out w2 _ hB ((hd 22 _ rfl (aj rfl)).2.1 rfl)).mono ?_);rintro e w3 ⟨rfl,hb⟩;exact⟨_,rfl,⟨rfl,aL,aL,aL,aL,aL⟩,hb⟩
      ·intro a w2 hB hF hd;exact aO <| aT (bZ rfl ((hd 18 _ rfl (aj rfl)).1)) ⟨(((hd 23 _ rfl (aj rfl)).1)),aL,aL,aL,aL,aL⟩
      ·intro a w2 hB hF hd;exact aO <| aB _ (.inl rfl) aR ⟨((hd 24 _ rfl (aj rfl)).1),aL,aL,aL,aL,aL⟩
      ·intro a w2 hB hF hd;refine aI (aK rfl rfl ((hd 25 _ rfl (aj rfl)).1) rfl) ?_;exact aB _ (.inl rfl) aR ⟨(hF.same 20 rfl),aL,aL,aL,aL,aL⟩
      ·intro a w2 hB hF hd;refine aI (aK rfl rfl ((hd 25 _ rfl (aj rfl)).1) rfl) ?_;exact aT (aF rfl dY rfl dh (hF.same 25 rfl) (h25.below hB h25.lt)) ⟨rfl,aL,aL,aL,aL,aL⟩
      ·intro a w2 hB hF hd;refine aI (aK rfl rfl ((hd 25 _ rfl (aj rfl)).1) rfl) ?_;refine aD _ _ _ rfl Tryz.call39 _ (args1 ((hd 27 _ rfl (aj rfl)).1)) aR ((RV.out w2).mono ?_);rintro e w3 ⟨rfl,hb⟩;exact⟨_,rfl,⟨rfl,aL,aL,aL,aL,aL⟩,hb⟩
      ·intro a w2 hB hF hd;refine aI (aK rfl rfl ((hd 25 _ rfl (aj rfl)).1) rfl) ?_;refine aD _ _ _ rfl Tryz.call14 _ (args1 ((hd 28 _ rfl (aj rfl)).1)) aR ((Lc.out VB VBB.out w2).mono ?_);rintro e w3 ⟨u,rfl,hr,hb⟩;exact⟨u,rfl,⟨trivial,aL,fun _=>hr,aL,aL,aL⟩,hb⟩
      ·intro a w2 hB hF hd;refine aI (aK rfl rfl ((hd 25 _ rfl (aj rfl)).1) rfl) ?_;refine aD _ _ _ rfl Tryz.call19 _ (args2 ((hd 26 _ rfl (aj rfl)).1) rfl) aR ((akW.out w2 _ hB ((hd 29 _ rfl (aj rfl)).2.2.1 rfl)).mono ?_);rintro e w3 ⟨rfl,hb⟩;exact⟨_,rfl,⟨rfl,aL,aL,aL,aL,aL⟩,hb⟩
      ·intro a w2 hB hF hd;exact aO <| aT (bZ rfl ((hd 25 _ rfl (aj rfl)).1)) ⟨(((hd 30 _ rfl (aj rfl)).1)),aL,aL,aL,aL,aL⟩
      ·intro a w2 hB hF hd;exact aO <| aB _ (.inl rfl) aR ⟨((hd 31 _ rfl (aj rfl)).1),aL,aL,aL,aL,aL⟩
      ·intro a w2 hB hF hd;refine aI (aK rfl rfl ((hd 32 _ rfl (aj rfl)).1) rfl) ?_;exact aB _ (.inl rfl) aR ⟨(hF.same 21 rfl),aL,aL,aL,aL,aL⟩
      ·intro a w2 hB hF hd;refine aI (aK rfl rfl ((hd 32 _ rfl (aj rfl)).1) rfl) ?_;exact aT (aF rfl dY rfl dh (hF.same 25 rfl) (h25.below hB h25.lt)) ⟨rfl,aL,aL,aL,aL,aL⟩
      ·intro a w2 hB hF hd;refine aI (aK rfl rfl ((hd 32 _ rfl (aj rfl)).1) rfl) ?_;refine aD _ _ _ rfl Tryz.call40 _ (args1 ((hd 34 _ rfl (aj rfl)).1)) aR ((RN.out w2).mono ?_);rintro e w3 ⟨rfl,hb⟩;exact⟨_,rfl,⟨rfl,aL,aL,aL,aL,aL⟩,hb⟩
      ·intro a w2 hB hF hd;refine aI (aK rfl rfl ((hd 32 _ rfl (aj rfl)).1) rfl) ?_;refine aD _ _ _ rfl Tryz.call14 _ (args1 ((hd 35 _ rfl (aj rfl)).1)) aR ((Lc.out NB NBB.out w2).mono ?_);rintro e w3 ⟨u,rfl,hr,hb⟩;exact⟨u,rfl,⟨trivial,aL,aL,fun _=>hr,aL,aL⟩,hb⟩
      ·intro a w2 hB hF hd;refine aI (aK rfl rfl ((hd 32 _ rfl (aj rfl)).1) rfl) ?_;refine aD _ _ _ rfl Tryz.call19 _ (args2 ((hd 33 _ rfl (aj rfl)).1) rfl) aR ((ala.out w2 _ hB ((hd 36 _ rfl (aj rfl)).2.2.2.1 rfl)).mono ?_);rintro e w3 ⟨rfl,hb⟩;exact⟨_,rfl,⟨rfl,aL,aL,aL,aL,aL⟩,hb⟩
      ·intro a w2 hB hF hd;exact aO <| aT (bZ rfl ((hd 32 _ rfl (aj rfl)).1)) ⟨(((hd 37 _ rfl (aj rfl)).1)),aL,aL,aL,aL,aL⟩
      ·intro a w2 hB hF hd;exact aO <| aB _ (.inl rfl) aR ⟨((hd 38 _ rfl (aj rfl)).1),aL,aL,aL,aL,aL⟩
      ·intro a w2 hB hF hd;refine aI (aK rfl rfl ((hd 39 _ rfl (aj rfl)).1) rfl) ?_;exact aB _ (.inl rfl) aR ⟨(hF.same 22 rfl),aL,aL,aL,aL,aL⟩
      ·intro a w2 hB hF hd;refine aI (aK rfl rfl ((hd 39 _ rfl (aj rfl)).1) rfl) ?_;exact aT (aF rfl dY rfl dh (hF.same 26 rfl) (h26.below hB h26.lt)) ⟨rfl,aL,aL,aL,aL,aL⟩
      ·intro a w2 hB hF hd;refine aI (aK rfl rfl ((hd 39 _ rfl (aj rfl)).1) rfl) ?_;refine aD _ _ _ rfl Tryz.call14 _ (args1 ((hd 41 _ rfl (aj rfl)).1)) aR ((Lc.out IB IBB.out w2).mono ?_);rintro e w3 ⟨u,rfl,hr,hb⟩;exact⟨u,rfl,⟨trivial,aL,aL,aL,fun _=>hr,aL⟩,hb⟩
      ·intro a w2 hB hF hd;refine aI (aK rfl rfl ((hd 39 _ rfl (aj rfl)).1) rfl) ?_;refine aD _ _ _ rfl Tryz.call19 _ (args2 ((hd 40 _ rfl (aj rfl)).1) rfl) aR ((alb.out w2 _ hB ((hd 42 _ rfl (aj rfl)).2.2.2.2.1 rfl)).mono ?_);rintro e w3 ⟨rfl,hb⟩;exact⟨_,rfl,⟨rfl,aL,aL,aL,aL,aL⟩,hb⟩
      ·intro a w2 hB hF hd;exact aO <| aT (bZ rfl ((hd 39 _ rfl (aj rfl)).1)) ⟨(((hd 43 _ rfl (aj rfl)).1)),aL,aL,aL,aL,aL⟩
      ·intro a w2 hB hF hd;exact aO <| aB _ (.inl rfl) aR ⟨((hd 44 _ rfl (aj rfl)).1),aL,aL,aL,aL,aL⟩
      ·intro a w2 hB hF hd;refine aI (aK rfl rfl ((hd 45 _ rfl (aj rfl)).1) rfl) ?_;exact aB _ (.inl rfl) aR ⟨(hF.same 23 rfl),aL,aL,aL,aL,aL⟩
      ·intro a w2 hB hF hd;refine aI (aK rfl rfl ((hd 45 _ rfl (aj rfl)).1) rfl) ?_;exact aT (aF rfl dY rfl dh (hF.same 25 rfl) (h25.below hB h25.lt)) ⟨rfl,aL,aL,aL,aL,aL⟩
      ·intro a w2 hB hF hd;refine aI (aK rfl rfl ((hd 45 _ rfl (aj rfl)).1) rfl) ?_;exact aB _ (.inl rfl) aR ⟨(hF.same 2 rfl),aL,aL,aL,aL,aL⟩
      ·intro a w2 hB hF hd;refine aI (aK rfl rfl ((hd 45 _ rfl (aj rfl)).1) rfl) ?_;refine aD _ _ _ rfl Tryz.call41 _ (args2 ((hd 47 _ rfl (aj rfl)).1) ((hd 48 _ rfl (aj rfl)).1)) aR ((HRG.out w2 hB).mono ?_);rintro e w3 ⟨u,rfl,hr,hb⟩;exact⟨u,rfl,⟨trivial,aL,aL,aL,aL,fun _=>hr⟩,hb⟩
      ·intro a w2 hB hF hd;refine aI (aK rfl rfl ((hd 45 _ rfl (aj rfl)).1) rfl) ?_;refine aD _ _ _ rfl Tryz.call19 _ (args2 ((hd 46 _ rfl (aj rfl)).1) rfl) aR ((alc.out w2 _ hB ((hd 49 _ rfl (aj rfl)).2.2.2.2.2 rfl)).mono ?_);rintro e w3 ⟨rfl,hb⟩;exact⟨_,rfl,⟨rfl,aL,aL,aL,aL,aL⟩,hb⟩
      ·intro a w2 hB hF hd;exact aO <| aT (bZ rfl ((hd 45 _ rfl (aj rfl)).1)) ⟨(((hd 50 _ rfl (aj rfl)).1)),aL,aL,aL,aL,aL⟩
      ·intro a w2 hB hF hd;exact aO <| aB _ (.inl rfl) aR ⟨((hd 51 _ rfl (aj rfl)).1),aL,aL,aL,aL,aL⟩
      ·intro a w2 hB hF hd;refine aI (aK rfl rfl ((hd 52 _ rfl (aj rfl)).1) rfl) ?_;exact aB _ (.inl rfl) aR ⟨(hF.same 7 rfl),aL,aL,aL,aL,aL⟩
      ·intro a w2 hB hF hd;refine aI (aK rfl rfl ((hd 52 _ rfl (aj rfl)).1) rfl) ?_;exact aB _ (.inl rfl) aR ⟨(hF.same 20 rfl),aL,aL,aL,aL,aL⟩
      ·intro a w2 hB hF hd;refine aI (aK rfl rfl ((hd 52 _ rfl (aj rfl)).1) rfl) ?_;exact aB _ (.inl rfl) aR ⟨(hF.same 2 rfl),aL,aL,aL,aL,aL⟩
      ·intro a w2 hB hF hd;refine aI (aK rfl rfl ((hd 52 _ rfl (aj rfl)).1) rfl) ?_;exact aB _ (.inl rfl) aR ⟨(hF.same 23 rfl),aL,aL,aL,aL,aL⟩
      ·intro a w2 hB hF hd;refine aI (aK rfl rfl ((hd 52 _ rfl (aj rfl)).1) rfl) ?_;refine aD _ _ _ rfl Tryz.call42 _ (WK ((hd 53 _ rfl (aj rfl)).1) ((hd 54 _ rfl (aj rfl)).1) ((hd 55 _ rfl (aj rfl)).1) ((hd 56 _ rfl (aj rfl)).1)) aR ((HCK.out w2 hB).mono ?_);rintro e w3 ⟨rfl,hb⟩;exact⟨_,rfl,⟨rfl,aL,aL,aL,aL,aL⟩,hb⟩
      ·intro a w2 hB hF hd;refine aI (aK rfl rfl ((hd 52 _ rfl (aj rfl)).1) rfl) ?_;refine aT (Go.bC.iF rfl ((hd 57 _ rfl (aj rfl)).1) rfl) ?_;exact⟨rfl,aL,aL,aL,aL,aL⟩
      ·intro a w2 hB hF hd;exact aO <| aT (bZ rfl ((hd 52 _ rfl (aj rfl)).1)) ⟨(((hd 58 _ rfl (aj rfl)).1)),aL,aL,aL,aL,aL⟩
      ·intro a w2 hB hF hd;exact aO <| aB _ (.inr rfl) aR ⟨((hd 59 _ rfl (aj rfl)).1),aL,aL,aL,aL,aL⟩
     ·intro a w28 hB hF hS;obtain⟨aeH,UZ⟩:∃x,x=a.tmps.getD 248 undef:=⟨_,rfl⟩
      have arZ:Rd .u8 w28 aeH 32 (PB):=by rw[UZ];exact(hS 22 _ rfl).2.1 rfl
      obtain⟨aeG,hx255⟩:∃x,x=a.tmps.getD 255 undef:=⟨_,rfl⟩
      have arY:Rd .u8 w28 aeG 32 (VB):=by rw[hx255];exact(hS 29 _ rfl).2.2.1 rfl
      obtain⟨aeF,UY⟩:∃x,x=a.tmps.getD 262 undef:=⟨_,rfl⟩
      have arX:Rd .u8 w28 aeF 32 (NB):=by rw[UY];exact(hS 36 _ rfl).2.2.2.1 rfl
      obtain⟨aeE,UW⟩:∃x,x=a.tmps.getD 268 undef:=⟨_,rfl⟩
      have arW:Rd .u8 w28 aeE 32 (IB):=by rw[UW];exact(hS 42 _ rfl).2.2.2.2.1 rfl
      obtain⟨aeD,UU⟩:∃x,x=a.tmps.getD 275 undef:=⟨_,rfl⟩
      have arV:Rd .u8 w28 aeD 64 (GB):=by rw[UU];exact(hS 49 _ rfl).2.2.2.2.2 rfl
      have ha:=aP rfl rfl hF [_,_,_,_,_,_,_,_,_,_,_,_,_,_,_,_,_,_,_,_,_,_,aeH,_,_,_,_,_,_,aeG,_,_,_,_,_,_,aeF,_,_,_,_,_,aeE,_,_,_,_,_,_,aeD,_,_,_,_,_,_,_,_,_,_,_] rfl ⟨(hS 0 _ rfl).1,(hS 1 _ rfl).1,(hS 2 _ rfl).1,(hS 3 _ rfl).1,(hS 4 _ rfl).1,(hS 5 _ rfl).1,(hS 6 _ rfl).1,(hS 7 _ rfl).1,(hS 8 _ rfl).1,(hS 9 _ rfl).1,(hS 10 _ rfl).1,(hS 11 _ rfl).1,(hS 12 _ rfl).1,(hS 13 _ rfl).1,(hS 14 _ rfl).1,(hS 15 _ rfl).1,(hS 16 _ rfl).1,(hS 17 _ rfl).1,(hS 18 _ rfl).1,(hS 19 _ rfl).1,(hS 20 _ rfl).1,(hS 21 _ rfl).1,UZ.symm,(hS 23 _ rfl).1,(hS 24 _ rfl).1,(hS 25 _ rfl).1,(hS 26 _ rfl).1,(hS 27 _ rfl).1,(hS 28 _ rfl).1,hx255.symm,(hS 30 _ rfl).1,(hS 31 _ rfl).1,(hS 32 _ rfl).1,(hS 33 _ rfl).1,(hS 34 _ rfl).1,(hS 35 _ rfl).1,UY.symm,(hS 37 _ rfl).1,(hS 38 _ rfl).1,(hS 39 _ rfl).1,(hS 40 _ rfl).1,(hS 41 _ rfl).1,UW.symm,(hS 43 _ rfl).1,(hS 44 _ rfl).1,(hS 45 _ rfl).1,(hS 46 _ rfl).1,(hS 47 _ rfl).1,(hS 48 _ rfl).1,UU.symm,(hS 50 _ rfl).1,(hS 51 _ rfl).1,(hS 52 _ rfl).1,(hS 53 _ rfl).1,(hS 54 _ rfl).1,(hS 55 _ rfl).1,(hS 56 _ rfl).1,(hS 57 _ rfl).1,(hS 58 _ rfl).1,(hS 59 _ rfl).1,(hS 60 _ rfl).1,trivial⟩;simp only[puts,Act.put,dK,dL,dM] at ha;subst ha;clear UZ hx255 UY UW UU;clear hS hF;have N18:=ak (WY.out.below hB);clear hB;go_wp2;go_ret;exact⟨rfl,B0.out.trans (N18.out.b.mono B0.out.size)⟩
theorem Ar (w:World) (sd:Nat->Int) (hs:∀i,i<32->(Lit.int .u8 (sd i)).wf=true) (vs:Value) (n:Nat) (f:Nat->Int) (hvs:Rd .u8 w vs n f) (hf:∀i,i<n->(Lit.int .u8 (f i)).wf=true) (vt:Value) (m:Nat) (g:Nat->Int) (hvt:Rd .u8 w vt m g) (hg:∀i,i<m->(Lit.int .u8 (g i)).wf=true):
  Calls Tryz.prog 4 #[.agg (arr .u8 32 sd),vs,vt] w fun e w'=>e=.returned (.bool true)/\Below w.heap.size w w':=
 Aq w sd (fun i hi=>by have:=bounds_u8 (hs i hi);omega) vs n f hvs (fun i hi=>by have:=bounds_u8 (hf i hi);omega) vt m g hvt (fun i hi=>by have:=bounds_u8 (hg i hi);omega)
end Go.Proofs.YtpcjekgfnfjbpaaGreat
