/-
  Part 54 of SuiteNone. Conditions: named in each theorem.
-/
import Derived.Test.YtpcjekgfnfjbpaaGreatPkSuiteNone52
import Derived.Test.YtpcjekgfnfjbpaaGreatPkSuiteNone53
set_option linter.unusedVariables false
set_option linter.unusedSimpArgs false
set_option maxRecDepth 100000
set_option maxHeartbeats 6400000
namespace Go.Proofs.YtpcjekgfnfjbpaaGreat
open Go.RowKit Go.bI Go.ChangeShapes Go.Maps
attribute [local go_sem ↓] Go.wp_at_zero Go.wp_at_succ
noncomputable def vI (f:Nat->Int):Nat->Int:=dg 256 (mulN (sm 256 f 32) 9)
noncomputable def wN (f:Nat->Int):Nat->Int:=dg 256 (Hr (sm 256 f 32))
theorem abL (f:Nat->Int) (i:Nat):0<=vI f i/\vI f i<256:=aX (by decide) _ _
theorem abj (f:Nat->Int) (i:Nat):0<=wN f i/\wN f i<256:=aX (by decide) _ _
theorem xK {f:Nat->Int} {m:Nat} (hf:∀i,i<m->0<=f i/\f i<256):arr .u8 m f=arr .u8 m (dg 256 (sm 256 f m)):=eF fun i hi=> (rF (by decide) hf i hi).symm
theorem Ue (f:Nat->Int) (hf:∀i,i<32->0<=f i/\f i<256) (w:World):Calls Tryz.prog 90 #[.agg (arr .u8 32 f)] w fun e w'=> e=.returned (.agg (arr .u8 32 (vI f)))/\Below w.heap.size w w':=by
 rw [xK hf];exact pW _ w
theorem SI (f:Nat->Int) (hf:∀i,i<32->0<=f i/\f i<256) (w:World):Calls Tryz.prog 92 #[.agg (arr .u8 32 f)] w fun e w'=> e=.returned (.agg (arr .u8 32 (wN f)))/\Below w.heap.size w w':=by
 rw [xK hf];exact Fj _ w
section
variable {B : Nat} {w w' w1 w2 w3 : World} {p q : Nat} {F F' G G' : Nat -> Prop} {sd : Nat -> Int} {n : Nat} {v u v' : Value} {l l' : List Int} {X X' : Su} {S : TS}
theorem Ct (hl:l.length=32) (ho:okB l) (h:Rd .u8 w v l.length (bf l)):Calls Tryz.prog 89 #[v,.func (.func 90) #[] #[]] w fun e w'=> ∃u,e=.returned (.tuple #[u,.int .i64 0])/\Rd .u8 w' u 32 (vI (bf l))/\Below w.heap.size w w':=by
 rw [hl] at h;have HK:=ak (jT h);have HC:=ak (fun w=> Ue (bf l) (fun i hi=> ho.at i (by omega)) w);obtain ⟨a,c,rfl,h1,h2,_,h4⟩:=h;obtain ⟨D,hD⟩:∃D,D=vI (bf l):=⟨_,rfl⟩
 rw [<-hD] at HC ⊢;clear hD h4 hl ho
 go_enter Tryz.func89,Tryz.ntmps89
 go_wp2_with fail;refine HK.out.mono ?_;rintro e w1 ⟨rfl,b1⟩;have B1:=ak b1;clear b1;obtain ⟨f,hf⟩:∃f,f=bf l:=⟨_,rfl⟩
 rw [<-hf] at HC ⊢;clear hf;go_upto_region 2 with (refine aF rfl 22 _ _ rfl .u8 w1.heap.size 32 (fun _=> 0) f dz rfl rfl (bG rfl (by rfl)) ?_);refine aG (fun w2=> aH .u8 w2 w1.heap.size 32 f/\Below w.heap.size w w2) ⟨(show aH .u8 (w1.alloc (.cells (arr .u8 32 (fun _=> 0)) 22)) w1.heap.size 32 (fun _=> 0) from bG rfl rfl).setRow 32 f,aA (B1.out.alloc B1.out.size _) B1.out.size _⟩ ?_;rintro w2 ⟨h2,b2⟩;have H2:=ak h2;have B2:=ak b2;clear h2 b2;go_wp2_with (refine aM rfl 22 _ rfl .u8 w1.heap.size 32 f 5 dU dz rfl H2.out ?_);refine (HC.out _).mono ?_;rintro e w3 ⟨rfl,b3⟩;have B3:=ak (B2.out.trans (b3.mono B2.out.size));clear b3;go_upto_region 5 with (refine aF rfl 22 _ _ rfl .u8 w3.heap.size 32 (fun _=> 0) D dz rfl rfl (bG rfl (by rfl)) ?_);refine aG (fun w4=> aH .u8 w4 w3.heap.size 32 D/\Below w.heap.size w w4) ⟨(show aH .u8 (w3.alloc (.cells (arr .u8 32 (fun _=> 0)) 22)) w3.heap.size 32 (fun _=> 0) from bG rfl rfl).setRow 32 D,aA (B3.out.alloc B3.out.size _) B3.out.size _⟩ ?_;rintro w4 ⟨h4,b4⟩;have HR:=ak (h4.rd (by decide));have B4:=ak b4;clear h4 b4;go_wp2;go_ret2;exact ⟨_,rfl,HR.out,B4.out⟩
theorem yN (hl:l.length≠32) (h:Rd .u8 w v l.length (bf l)):Calls Tryz.prog 89 #[v,.func (.func 90) #[] #[]] w fun e w'=> e=.returned (.tuple #[.slice none 0 0,.int .i64 11])/\Below w.heap.size w w':=by
 have HK:=ak (mM h hl);obtain ⟨a,c,rfl,h1,h2,_,h4⟩:=h;clear h4 hl
 go_enter Tryz.func89,Tryz.ntmps89
 go_wp2_with fail;refine HK.out.mono ?_;rintro e w1 ⟨rfl,b1⟩;have B1:=ak b1;clear b1;go_upto_region 2 with (refine aF rfl 22 _ _ rfl .u8 w1.heap.size 32 (fun _=> 0) (fun _=> 0) dz rfl rfl (bG rfl (by rfl)) ?_);refine aG (fun w2=> Below w.heap.size w w2) (aA (B1.out.alloc B1.out.size _) B1.out.size _) ?_;rintro w2 b2;have B2:=ak b2;clear b2;go_wp2;go_ret2;exact ⟨rfl,B2.out⟩
theorem IE (h:uJ B w p F (.by sd n)) (hb:eU F w v l):Calls Tryz.prog 33 #[.pointer (some ⟨p,0,none⟩),v] w fun e w'=> ∃u,e=.returned (.tuple #[u,.int .i64 (JA vI sd n l).2.1])/\Lm B w p F u (JA vI sd n l) w':=by
 have HQ:=ak h;have HW:=ak (dP h.1.r);obtain ⟨R,hR⟩:∃x,x=JA vI sd n l:=⟨_,rfl⟩
 rw [<-hR];have HR:=ak hR;by_cases hl:l.length=32
 ·have HC:=ak (Ct hl hb.ok hb.rd);have HE:Hid (R=(kM 32 (vI (bf l)),0,.by sd n)):=ak (by rw [HR.out];exact if_pos hl);obtain ⟨av,cv,rfl,_⟩:=hb.rd;clear hR h hb hl
  go_enter Tryz.func33,Tryz.ntmps33
  go_wp2_with fail;refine HW.out.mono ?_;rintro e w1 ⟨rfl,rfl⟩;go_wp2_with fail;refine HC.out.mono ?_;rintro e w2 ⟨u,rfl,hr,b2⟩;have HD:=ak (zo HQ.out (HQ.out.1.below b2) (uM.of_below b2 _) hr (fun i _=> abL (bf l) i) 0);clear hr b2;go_wp2;go_ret2;rw [HE.out];exact ⟨u,rfl,HD.out⟩
 ·have HC:=ak (yN hl hb.rd);have HE:Hid (R=([],11,.by sd n)):=ak (by rw [HR.out];exact if_neg hl);obtain ⟨av,cv,rfl,_⟩:=hb.rd;clear hR h hb hl
  go_enter Tryz.func33,Tryz.ntmps33
  go_wp2_with fail;refine HW.out.mono ?_;rintro e w1 ⟨rfl,rfl⟩;go_wp2_with fail;refine HC.out.mono ?_;rintro e w2 ⟨rfl,b2⟩;have HD:=ak (rU HQ.out b2 11);clear b2;go_wp2;go_ret2;rw [HE.out];exact ⟨_,rfl,HD.out⟩
theorem yM (hl:l.length=32) (ho:okB l) (h:Rd .u8 w v l.length (bf l)):Calls Tryz.prog 89 #[v,.func (.func 92) #[] #[]] w fun e w'=> ∃u,e=.returned (.tuple #[u,.int .i64 0])/\Rd .u8 w' u 32 (wN (bf l))/\Below w.heap.size w w':=by
 rw [hl] at h;have HK:=ak (jT h);have HC:=ak (fun w=> SI (bf l) (fun i hi=> ho.at i (by omega)) w);obtain ⟨a,c,rfl,h1,h2,_,h4⟩:=h;obtain ⟨D,hD⟩:∃D,D=wN (bf l):=⟨_,rfl⟩
 rw [<-hD] at HC ⊢;clear hD h4 hl ho
 go_enter Tryz.func89,Tryz.ntmps89
 go_wp2_with fail;refine HK.out.mono ?_;rintro e w1 ⟨rfl,b1⟩;have B1:=ak b1;clear b1;obtain ⟨f,hf⟩:∃f,f=bf l:=⟨_,rfl⟩
 rw [<-hf] at HC ⊢;clear hf;go_upto_region 2 with (refine aF rfl 22 _ _ rfl .u8 w1.heap.size 32 (fun _=> 0) f dz rfl rfl (bG rfl (by rfl)) ?_);refine aG (fun w2=> aH .u8 w2 w1.heap.size 32 f/\Below w.heap.size w w2) ⟨(show aH .u8 (w1.alloc (.cells (arr .u8 32 (fun _=> 0)) 22)) w1.heap.size 32 (fun _=> 0) from bG rfl rfl).setRow 32 f,aA (B1.out.alloc B1.out.size _) B1.out.size _⟩ ?_;rintro w2 ⟨h2,b2⟩;have H2:=ak h2;have B2:=ak b2;clear h2 b2;go_wp2_with (refine aM rfl 22 _ rfl .u8 w1.heap.size 32 f 5 dU dz rfl H2.out ?_);refine (HC.out _).mono ?_;rintro e w3 ⟨rfl,b3⟩;have B3:=ak (B2.out.trans (b3.mono B2.out.size));clear b3;go_upto_region 5 with (refine aF rfl 22 _ _ rfl .u8 w3.heap.size 32 (fun _=> 0) D dz rfl rfl (bG rfl (by rfl)) ?_);refine aG (fun w4=> aH .u8 w4 w3.heap.size 32 D/\Below w.heap.size w w4) ⟨(show aH .u8 (w3.alloc (.cells (arr .u8 32 (fun _=> 0)) 22)) w3.heap.size 32 (fun _=> 0) from bG rfl rfl).setRow 32 D,aA (B3.out.alloc B3.out.size _) B3.out.size _⟩ ?_;rintro w4 ⟨h4,b4⟩;have HR:=ak (h4.rd (by decide));have B4:=ak b4;clear h4 b4;go_wp2;go_ret2;exact ⟨_,rfl,HR.out,B4.out⟩
theorem vg (hl:l.length≠32) (h:Rd .u8 w v l.length (bf l)):Calls Tryz.prog 89 #[v,.func (.func 92) #[] #[]] w fun e w'=> e=.returned (.tuple #[.slice none 0 0,.int .i64 11])/\Below w.heap.size w w':=by
 have HK:=ak (mM h hl);obtain ⟨a,c,rfl,h1,h2,_,h4⟩:=h;clear h4 hl
 go_enter Tryz.func89,Tryz.ntmps89
 go_wp2_with fail;refine HK.out.mono ?_;rintro e w1 ⟨rfl,b1⟩;have B1:=ak b1;clear b1;go_upto_region 2 with (refine aF rfl 22 _ _ rfl .u8 w1.heap.size 32 (fun _=> 0) (fun _=> 0) dz rfl rfl (bG rfl (by rfl)) ?_);refine aG (fun w2=> Below w.heap.size w w2) (aA (B1.out.alloc B1.out.size _) B1.out.size _) ?_;rintro w2 b2;have B2:=ak b2;clear b2;go_wp2;go_ret2;exact ⟨rfl,B2.out⟩
theorem Cr (h:uJ B w p F (.by sd n)) (hb:eU F w v l):Calls Tryz.prog 34 #[.pointer (some ⟨p,0,none⟩),v] w fun e w'=> ∃u,e=.returned (.tuple #[u,.int .i64 (JA wN sd n l).2.1])/\Lm B w p F u (JA wN sd n l) w':=by
 have HQ:=ak h;have HW:=ak (dP h.1.r);obtain ⟨R,hR⟩:∃x,x=JA wN sd n l:=⟨_,rfl⟩
 rw [<-hR];have HR:=ak hR;by_cases hl:l.length=32
 ·have HC:=ak (yM hl hb.ok hb.rd);have HE:Hid (R=(kM 32 (wN (bf l)),0,.by sd n)):=ak (by rw [HR.out];exact if_pos hl);obtain ⟨av,cv,rfl,_⟩:=hb.rd;clear hR h hb hl
  go_enter Tryz.func34,Tryz.ntmps34
  go_wp2_with fail;refine HW.out.mono ?_;rintro e w1 ⟨rfl,rfl⟩;go_wp2_with fail;refine HC.out.mono ?_;rintro e w2 ⟨u,rfl,hr,b2⟩;have HD:=ak (zo HQ.out (HQ.out.1.below b2) (uM.of_below b2 _) hr (fun i _=> abj (bf l) i) 0);clear hr b2;go_wp2;go_ret2;rw [HE.out];exact ⟨u,rfl,HD.out⟩
 ·have HC:=ak (vg hl hb.rd);have HE:Hid (R=([],11,.by sd n)):=ak (by rw [HR.out];exact if_neg hl);obtain ⟨av,cv,rfl,_⟩:=hb.rd;clear hR h hb hl
  go_enter Tryz.func34,Tryz.ntmps34
  go_wp2_with fail;refine HW.out.mono ?_;rintro e w1 ⟨rfl,rfl⟩;go_wp2_with fail;refine HC.out.mono ?_;rintro e w2 ⟨rfl,b2⟩;have HD:=ak (rU HQ.out b2 11);clear b2;go_wp2;go_ret2;rw [HE.out];exact ⟨_,rfl,HD.out⟩
end
noncomputable def xP (sd:Nat->Int) (n:Nat) (a b:List Int):UA:=
 if a.length=32 then
  if mulN (sm 256 (jw sd n) 32) (sm 256 (bf a) 32)=0 then ([],21,.by sd (n+1))
  else (kM (32+(b.length+16)) (lU (sm 256 (jw sd n) 32) (sm 256 (bf a) 32) b.length (bf b)),0,.by sd (n+1))
 else ([],11,.by sd n)
noncomputable def pJ (a c:List Int):List Int × Int:=
 if a.length=32 then
  if c.length<48 then ([],10)
  else if qE (sm 256 (bf a) 32) (bf c)=0 then ([],21)
  else if tC (sm 256 (bf a) 32) (c.length - 48) (bf c)=true then (kM (c.length - 48) (LD (sm 256 (bf a) 32) (bf c)),0) else ([],20)
 else ([],11)
theorem Ie {F:Nat->Prop} {w w':World} {v:Value} {r:List Int} {e:Int} (h:∃u,v=.tuple #[u,.int .i64 e] /\eU F w u r) (hb:Below w.heap.size w w'):∃u,v=.tuple #[u,.int .i64 e] /\eU F w' u r:=by
 obtain ⟨u,e,h⟩:=h;exact ⟨u,e,h.below hb⟩
theorem SA (S P:Int) (n:Nat) (f:Nat->Int) (i:Nat):0<=lU S P n f i/\lU S P n f i<256:=by
 unfold lU fH
 split
 ·exact aX (by decide) _ _
 ·exact qO _ _ _ _ _ _ _
section
variable {B : Nat} {w w' w1 w2 w3 : World} {p q : Nat} {F F' G G' : Nat -> Prop} {sd : Nat -> Int} {n : Nat} {v u v' : Value} {l l' : List Int} {X X' : Su} {S : TS}
theorem Iw (h:uJ B w p F (.by sd n)) (hb:eU F w v l) (hb':eU F w v' l') (hl':l'.length<=400):Calls Tryz.prog 22 #[.pointer (some ⟨p,0,none⟩),v,v'] w fun e w'=> ∃u,e=.returned (.tuple #[u,.int .i64 (pJ l l').2])/\eU F w' u (pJ l l').1/\Below w.heap.size w w':=by
 have HW:=ak (dP h.1.r);have HNF:=ak h.2;obtain ⟨R,hR⟩:∃x,x=pJ l l':=⟨_,rfl⟩
 rw [<-hR];have HR:=ak hR;by_cases hl:l.length=32
 ·have hr1:=hb.rd;rw [hl] at hr1;have HK:=ak (jT hr1);obtain ⟨K,hK⟩:∃K,K=bf l:=⟨_,rfl⟩
  have HBX:Hid (∀w1,Below w.heap.size w w1->Calls Tryz.prog 75 #[.agg (arr .u8 32 K),v'] w1 fun e w'=> ∃u,e=.returned (.tuple #[u,.int .i64 R.2])/\eU F w' u R.1/\Below w1.heap.size w1 w'):=ak fun w1 b1=> by
   rw [hK,xK (fun i hi=> hb.ok.at i (by omega)),HR.out];unfold pJ;rw [if_pos hl];have hv:=hb'.rd.below b1;by_cases h48:l'.length<48
   ·rw [if_pos h48];refine (Bn _ v' _ _ w1 hv h48).mono ?_;rintro e w' ⟨rfl,b⟩;exact ⟨_,rfl,eU.nil _ _,b⟩
   ·rw [if_neg h48];refine (GL _ v' (l'.length - 48) l'.length (by omega) _ w1 hv (by omega) (fun i hi=> hb'.ok.at i hi)).mono ?_;rintro e w' ⟨u,er,rfl,⟨r1,r2⟩,b⟩;by_cases hx:qE (sm 256 (bf l) 32) (bf l')=0
    ·rw [if_pos hx];obtain ⟨rfl,rfl⟩:=r1 hx;exact ⟨_,rfl,eU.nil _ _,b⟩
    ·rw [if_neg hx];by_cases ho:tC (sm 256 (bf l) 32) (l'.length - 48) (bf l')=true
     ·rw [if_pos ho];obtain ⟨rfl,hr⟩:=(r2 hx).2 ho;exact ⟨_,rfl,eU.any hr (fun i _=> pX _ _ _ _ i) HNF.out,b⟩
     ·rw [if_neg ho];obtain ⟨rfl,rfl⟩:=(r2 hx).1 (by simpa using ho);exact ⟨_,rfl,eU.nil _ _,b⟩
  rw [<-hK] at HK;obtain ⟨av,cv,rfl,_⟩:=hb.rd;obtain ⟨Dc,cv',rfl,_⟩:=hb'.rd;clear hR h hb hb' hl hr1 hK HR hl'
  go_enter Tryz.func22,Tryz.ntmps22
  go_wp2_with fail;refine HW.out.mono ?_;rintro e w1 ⟨rfl,rfl⟩;go_wp2_with fail;refine HK.out.mono ?_;rintro e w2 ⟨rfl,b2⟩;have B2:=ak b2;clear b2;go_upto_region 4 with (refine aF rfl 22 _ _ rfl .u8 w2.heap.size 32 (fun _=> 0) K dz rfl rfl (bG rfl (by rfl)) ?_);refine aG (fun w3=> aH .u8 w3 w2.heap.size 32 K/\Below w1.heap.size w1 w3) ⟨(show aH .u8 (w2.alloc (.cells (arr .u8 32 (fun _=> 0)) 22)) w2.heap.size 32 (fun _=> 0) from bG rfl rfl).setRow 32 K,aA (B2.out.alloc B2.out.size _) B2.out.size _⟩ ?_;rintro w3 ⟨h8,b3⟩;have H8:=ak h8;have B3:=ak b3;clear h8 b3;go_wp2_with (refine aM rfl 22 _ rfl .u8 w2.heap.size 32 K 5 dU dz rfl H8.out ?_);refine (HBX.out w3 B3.out).mono ?_;rintro e w4 ⟨u,rfl,hy,b4⟩;have HY:=ak hy;have B4:=ak (B3.out.trans (b4.mono B3.out.size));obtain ⟨au,cu,rfl⟩:=hy.slice;clear hy b4;go_wp2;go_ret2;exact ⟨_,rfl,HY.out,B4.out⟩
 ·have HK:=ak (mM hb.rd hl);have HE:Hid (R=([],11)):=ak (by rw [HR.out];exact if_neg hl);obtain ⟨av,cv,rfl,_⟩:=hb.rd;obtain ⟨Dc,cv',rfl,_⟩:=hb'.rd;clear hR h hb hb' hl
  go_enter Tryz.func22,Tryz.ntmps22
  go_wp2_with fail;refine HW.out.mono ?_;rintro e w1 ⟨rfl,rfl⟩;go_wp2_with fail;refine HK.out.mono ?_;rintro e w2 ⟨rfl,b2⟩;have B2:=ak b2;clear b2;go_upto_region 4 with (refine aF rfl 22 _ _ rfl .u8 w2.heap.size 32 (fun _=> 0) (fun _=> 0) dz rfl rfl (bG rfl (by rfl)) ?_);refine aG (fun w3=> Below w1.heap.size w1 w3) (aA (B2.out.alloc B2.out.size _) B2.out.size _) ?_;rintro w3 b3;have B3:=ak b3;clear b3;go_wp2;go_ret2;rw [HE.out];exact ⟨_,rfl,eU.nil _ _,B3.out⟩
theorem Pw (h:uJ B w p F (.by sd n)) (hb:eU F w v l) (hb':eU F w v' l') (hn:n<=900) (hl':l'.length<=300):Calls Tryz.prog 13 #[.pointer (some ⟨p,0,none⟩),v,v'] w fun e w'=> ∃u,e=.returned (.tuple #[u,.int .i64 (xP sd n l l').2.1])/\Lm B w p F u (xP sd n l l') w':=by
 have HQ:=ak h;have HW:=ak (dP h.1.r);have HNF:=ak h.2;obtain ⟨R,hR⟩:∃x,x=xP sd n l l':=⟨_,rfl⟩
 rw [<-hR];have HR:=ak hR;by_cases hl:l.length=32
 ·have hr1:=hb.rd;rw [hl] at hr1;have HK:=ak (jT hr1);obtain ⟨K,hK⟩:∃K,K=bf l:=⟨_,rfl⟩
  obtain ⟨D,hD⟩:∃D,D=jw sd n:=⟨_,rfl⟩
  have HR2:Hid (R.2.2=.by sd (n+1)):=ak (by
   rw [HR.out];unfold xP;rw [if_pos hl]
   split<;> rfl)
  have HBX:Hid (∀w1,Rd .u8 w1 v' l'.length (bf l')->Calls Tryz.prog 65 #[.agg (arr .u8 32 D),.agg (arr .u8 32 K),v'] w1 fun e w'=> ∃u,e=.returned (.tuple #[u,.int .i64 R.2.1])/\eU F w' u R.1/\Below w1.heap.size w1 w'):=ak fun w1 hv=> by
   rw [hK,hD,xK (fun i hi=> hb.ok.at i (by omega)),xK (f:=jw sd n) (fun i _=> sH sd n i),HR.out];unfold xP;rw [if_pos hl];refine (Ny _ _ v' _ _ w1 hv hl').mono ?_;rintro e w' ⟨u,er,rfl,⟨r1,r2⟩,b⟩;by_cases hx:mulN (sm 256 (jw sd n) 32) (sm 256 (bf l) 32)=0
   ·rw [if_pos hx];obtain ⟨rfl,rfl⟩:=r1 hx;exact ⟨_,rfl,eU.nil _ _,b⟩
   ·rw [if_neg hx];obtain ⟨rfl,hr⟩:=r2 hx;exact ⟨_,rfl,eU.any hr (fun i _=> SA _ _ _ _ i) HNF.out,b⟩
  have HDR:=ak (fun w h=> qL (w:=w) (B:=B) (p:=p) (sd:=sd) (n:=n) h (by omega));rw [<-hK] at HK;rw [<-hD] at HDR;have HV:=ak hb'.rd;have ZU:Hid (p<w.heap.size):=ak h.1.lt;obtain ⟨av,cv,rfl,_⟩:=hb.rd;obtain ⟨av2,cv2,rfl,_⟩:=hb'.rd;have ahK:Hid (∀w1,Rd .u8 w1 (.slice av2 l'.length cv2) l'.length (bf l')->Calls Tryz.prog 65 #[.agg (arr .u8 32 D),.agg (arr .u8 32 K),.slice av2 l'.length cv2] w1 fun e w'=> ∃x,e=.returned x/\(∃u,x=.tuple #[u,.int .i64 R.2.1] /\eU F w' u R.1)/\Below w1.heap.size w1 w'):=ak fun w1 hv=> (HBX.out w1 hv).mono fun e w' ⟨u,h1,h2,h3⟩=> ⟨_,h1,⟨u,rfl,h2⟩,h3⟩
  obtain ⟨N2,OJ⟩:∃N,N=l'.length:=⟨_,rfl⟩
  rw [<-OJ] at ahK HV ⊢;clear hR h hb hb' hl hr1 hK hD HR hl' hn HBX OJ
  go_enter Tryz.func13,Tryz.ntmps13
  go_wp2_with fail;refine HW.out.mono ?_;rintro e w1 ⟨rfl,rfl⟩;go_wp2_with fail;refine HK.out.mono ?_;rintro e w2 ⟨rfl,b2⟩;have B2:=ak b2;clear b2;go_upto_region 4 with (refine aF rfl 22 _ _ rfl .u8 w2.heap.size 32 (fun _=> 0) K dz rfl rfl (bG rfl (by rfl)) ?_);refine aG (fun w3=> aH .u8 w3 w2.heap.size 32 K/\Below w1.heap.size w1 w3) ⟨(show aH .u8 (w2.alloc (.cells (arr .u8 32 (fun _=> 0)) 22)) w2.heap.size 32 (fun _=> 0) from bG rfl rfl).setRow 32 K,aA (B2.out.alloc B2.out.size _) B2.out.size _⟩ ?_;rintro w3 ⟨h8,b3⟩;have H8:=ak h8;have B3:=ak b3;have HP2:Hid (p<w2.heap.size):=ak (uK ZU.out B2.out.size);clear h8 b3;obtain ⟨x8,hx8⟩:∃x,x=w2.heap.size:=⟨_,rfl⟩
  rw [<-hx8] at H8 HP2 ⊢;clear hx8;go_upto_region 6 with (fail);have HQ3:Hid (Ce B w3 p sd n):=ak (HQ.out.1.below B3.out);have HNP:Hid (¬ (x8=p\/False)):=ak fun h=> h.elim (fun e=> by have:=HP2.out;omega) id;have Xp:=ak (HV.out.below B3.out)
  refine FD (n:=37) 1 (by kernel_rfl) (by kernel_rfl) (by kernel_rfl) (by decide) (by kernel_rfl) rfl
   (fun ii vv=> (match ii with | 0=> vv=.pointer (some ⟨p,0,none⟩) | 1=> vv=.agg (arr .u8 32 (D)) | 2=> vv=.agg (arr .u8 32 (K)) | 3=> vv=.slice av2 N2 cv2 | 6 | 8=> vv=.int .i64 (R.2.1) | _=> True)) (fun ii vv ww=> (ii=4->∃u,vv=.tuple #[u,.int .i64 R.2.1] /\eU F ww u R.1)/\(ii=5->eU F ww vv R.1)/\(ii=7->eU F ww vv R.1))
   (fun i v w w' h hE=> ⟨fun e=> Ie (h.1 e) hE,fun e=> eU.below (h.2.1 e) hE,fun e=> eU.below (h.2.2 e) hE⟩)
   (fun ww=> Ce B ww p sd (n+1)/\uM p (fun _=> False) w3 ww) (fun _ _ h hb=> ⟨h.1.below hb,h.2.trans (uM.of_below hb (fun _=> False)) fun _ h=> .inl h⟩) ?_ ?_ ?_
  ·refine bQ ?_;refine ⟨?_,(fun h=> absurd rfl h),?_,?_,?_,?_,?_,?_,?_,trivial⟩
   ·intro _ a w2 hB' hP hO hF hd;have hB:=hB' (by kernel_rfl);exact aJ <| fq rfl ⟨(hF.same 0 rfl),aK,aK,aK⟩
   ·intro _ a w2 hB' hP hO hF hd;rw [if_pos (dD rfl)];have nT:aH .u8 w2 x8 32 K:=hO.elim (fun hB=> H8.out.kept hB) (fun hp=> H8.out.tT hp.2.tT HNP.out);exact aO (vG rfl dU dz (hF.same 8 rfl) nT) ⟨rfl,aK,aK,aK⟩
   ·intro _ a w2 hB' hP hO hF hd;exact aJ <| fq rfl ⟨(hF.same 2 rfl),aK,aK,aK⟩
   ·intro _ a w2 hB' hP hO hF hd;refine aJ <| aD _ _ _ rfl Tryz.call65 _ (tY ((hd 1 _ rfl rfl).1) ((hd 2 _ rfl rfl).1) ((hd 3 _ rfl rfl).1)) (by simp) ((ahK.out w2 (Xp.out.chS (hP (by kernel_rfl)).2 fun _ _ _=> id)).mono ?_);rintro e w3 ⟨u,rfl,hr,hb⟩;exact ⟨u,rfl,⟨trivial,fun _=> hr,aK,aK⟩,hb⟩
   ·intro _ a w2 hB' hP hO hF hd;rw [if_pos (dD rfl)];obtain ⟨u_,Gx,OE⟩:=(((hd 4 _ rfl rfl).2 (by kernel_rfl)).1 rfl)
    exact aO (bD rfl Gx rfl) ⟨trivial,aK,fun _=> (OE),aK⟩
   ·intro _ a w2 hB' hP hO hF hd;rw [if_pos (dD rfl)];obtain ⟨u_,Gx,OE⟩:=(((hd 4 _ rfl rfl).2 (by kernel_rfl)).1 rfl)
    exact aO (bD rfl Gx rfl) ⟨rfl,aK,aK,aK⟩
   ·intro _ a w2 hB' hP hO hF hd;exact aJ <| pE rfl ⟨trivial,aK,aK,fun _=> (((hd 5 _ rfl rfl).2 (by kernel_rfl)).2.1 rfl)⟩
   ·intro _ a w2 hB' hP hO hF hd;exact aJ <| pE rfl ⟨((hd 6 _ rfl rfl).1),aK,aK,aK⟩
  ·intro o ho a w2 hB hF hd;obtain rfl:=fT ho;refine ⟨by rw [dD rfl],?_⟩;refine SC 66 #[.tmp 22] _ rfl Tryz.call66 _ (args1 ((hd 0 _ rfl rfl).1)) (by simp) ((HDR.out w2 (HQ3.out.below hB)).mono ?_);rintro e w4 ⟨rfl,h4,c4⟩;exact ⟨_,rfl,⟨rfl,aK,aK,aK⟩,h4,(uM.of_below hB (fun _=> False)).trans c4 fun _ h=> .inl h⟩
  ·intro a w4 hP hF hS;obtain ⟨x26,MS⟩:∃x,x=a.tmps.getD 26 undef:=⟨_,rfl⟩
   have P26:∃u,x26=.tuple #[u,.int .i64 R.2.1] /\eU F w4 u R.1:=by rw [MS];exact ((hS 4 _ rfl).2 (by kernel_rfl)).1 rfl
   obtain ⟨x27,hx27⟩:∃x,x=a.tmps.getD 27 undef:=⟨_,rfl⟩
   have P27:eU F w4 x27 R.1:=by rw [hx27];exact ((hS 5 _ rfl).2 (by kernel_rfl)).2.1 rfl
   obtain ⟨x6,hx6⟩:∃x,x=a.tmps.getD 6 undef:=⟨_,rfl⟩
   have P6:eU F w4 x6 R.1:=by rw [hx6];exact ((hS 7 _ rfl).2 (by kernel_rfl)).2.2 rfl
   have ha:=aI rfl rfl hF [_,_,_,_,x26,x27,_,x6,_] rfl ⟨(hS 0 _ rfl).1,(hS 1 _ rfl).1,(hS 2 _ rfl).1,(hS 3 _ rfl).1,MS.symm,hx27.symm,(hS 6 _ rfl).1,hx6.symm,(hS 8 _ rfl).1,trivial⟩;simp only [puts,Act.put,dH,dI,dJ] at ha;subst ha;clear MS hx27 hx6;clear hS hF;have HY:=ak P6;have HD:Hid (Lm B w1 p F x6 R w4):=ak (by
    refine ⟨F,?_,HY.out,?_,fun b hb=> .inl hb⟩
    ·rw [HR2.out];exact ⟨hP.1,HNF.out⟩
    ·refine (uM.of_below B3.out F).trans ⟨hP.2.tT.mono fun b _ hb=> hb.imp id fun h=> h.elim,fun b hb _=> hP.2.u8 b hb id⟩ fun b h=> .inl h)
   obtain ⟨a6,c6,e6⟩:=HY.out.slice;subst e6;clear P6 P26 P27 hP;go_wp2;go_ret2;exact ⟨_,rfl,HD.out⟩
 ·have HK:=ak (mM hb.rd hl);have HE:Hid (R=([],11,.by sd n)):=ak (by rw [HR.out];exact if_neg hl);obtain ⟨av,cv,rfl,_⟩:=hb.rd;obtain ⟨Dc,cv',rfl,_⟩:=hb'.rd;clear hR h hb hb' hl
  go_enter Tryz.func13,Tryz.ntmps13
  go_wp2_with fail;refine HW.out.mono ?_;rintro e w1 ⟨rfl,rfl⟩;go_wp2_with fail;refine HK.out.mono ?_;rintro e w2 ⟨rfl,b2⟩;have B2:=ak b2;clear b2;go_upto_region 4 with (refine aF rfl 22 _ _ rfl .u8 w2.heap.size 32 (fun _=> 0) (fun _=> 0) dz rfl rfl (bG rfl (by rfl)) ?_);refine aG (fun w3=> Below w1.heap.size w1 w3) (aA (B2.out.alloc B2.out.size _) B2.out.size _) ?_;rintro w3 b3;have B3:=ak b3;clear b3;go_wp2;go_ret2;rw [HE.out];exact ⟨_,rfl,rU HQ.out B3.out 11⟩
end
end Go.Proofs.YtpcjekgfnfjbpaaGreat
namespace Go.Proofs.YtpcjekgfnfjbpaaGreat
open Go.RowKit Go.bI Go.ChangeShapes Go.Maps
noncomputable def Su.pub:Su->List Int->UA
 | .by sd n,l=> JA vI sd n l
 | .tm S,l=> ((qX 2 S l).1,(qX 2 S l).2.1,.tm (qX 2 S l).2.2)
noncomputable def Su.ver:Su->List Int->UA
 | .by sd n,l=> JA wN sd n l
 | .tm S,l=> ((qX 3 S l).1,(qX 3 S l).2.1,.tm (qX 3 S l).2.2)
noncomputable def Su.unw:Su->List Int->List Int->List Int × Int
 | .by _ _,a,c=> pJ a c
 | .tm S,a,c=> pI S a c
noncomputable def Su.wrp:Su->List Int->List Int->UA
 | .by sd n,a,b=> xP sd n a b
 | .tm S,a,b=> ((lX 4 S a b).1,(lX 4 S a b).2.1,.tm (lX 4 S a b).2.2)
section
variable {B : Nat} {w w' : World} {p : Nat} {F : Nat -> Prop} {v u v' : Value} {l l' : List Int} {X : Su}
theorem vw (h:uJ B w p F X) (hb:eU F w v l) (hn:X.size<=900):Calls Tryz.prog 33 #[.pointer (some ⟨p,0,none⟩),v] w fun e w'=> ∃u,e=.returned (.tuple #[u,.int .i64 (X.pub l).2.1])/\Lm B w p F u (X.pub l) w':=by
 cases X with
 | «by» sd n=> exact IE h hb
 | tm S=> exact (IC h hb hn).mono fun e w' ⟨u,h1,h2⟩=> ⟨u,h1,h2.su⟩
theorem qK (h:uJ B w p F X) (hb:eU F w v l) (hn:X.size<=900):Calls Tryz.prog 34 #[.pointer (some ⟨p,0,none⟩),v] w fun e w'=> ∃u,e=.returned (.tuple #[u,.int .i64 (X.ver l).2.1])/\Lm B w p F u (X.ver l) w':=by
 cases X with
 | «by» sd n=> exact Cr h hb
 | tm S=> exact (Cq h hb hn).mono fun e w' ⟨u,h1,h2⟩=> ⟨u,h1,h2.su⟩
theorem uY (h:uJ B w p F X) (hb:eU F w v l) (hb':eU F w v' l') (hl':l'.length<=400) (hn:X.size<=900):Calls Tryz.prog 22 #[.pointer (some ⟨p,0,none⟩),v,v'] w fun e w'=> ∃u,e=.returned (.tuple #[u,.int .i64 (X.unw l l').2])/\eU F w' u (X.unw l l').1/\Below w.heap.size w w':=by
 cases X with
 | «by» sd n=> exact Iw h hb hb' hl'
 | tm S=> exact Iu h hb hb' (jG hn (by decide))
theorem zS (h:uJ B w p F X) (hb:eU F w v l) (hb':eU F w v' l') (hl':l'.length<=300) (hn:X.size<=900):Calls Tryz.prog 13 #[.pointer (some ⟨p,0,none⟩),v,v'] w fun e w'=> ∃u,e=.returned (.tuple #[u,.int .i64 (X.wrp l l').2.1])/\Lm B w p F u (X.wrp l l') w':=by
 cases X with
 | «by» sd n=> exact Pw h hb hb' hn hl'
 | tm S=> exact (Pv h hb hb' hn).mono fun e w' ⟨u,h1,h2⟩=> ⟨u,h1,h2.su⟩
end
theorem Yo (a:List Int):sm 256 (bf (kM 32 (vI (bf a)))) 32=mulN (sm 256 (bf a) 32) 9:=by
 rw [gB (fun i hi=> om hi)];unfold vI;rw [jF (by decide),sS (zy _ 9).1 (zy _ 9).2]
theorem GK (sd:Nat->Int) (m:Nat) {a b:List Int} (ha:a.length=32) (hb:okB b):∃c,xP sd m (kM 32 (vI (bf a))) b=(c,0,.by sd (m+1))/\pJ a c=(b,0)/\c.length=b.length+48/\okB c:=by
 obtain ⟨S,hS⟩:∃S,S=sm 256 (jw sd m) 32:=⟨_,rfl⟩
 obtain ⟨T,hT⟩:∃T,T=sm 256 (bf a) 32:=⟨_,rfl⟩
 obtain ⟨n,hn⟩:∃n,n=b.length:=⟨_,rfl⟩
 have hne:mulN S (mulN T 9)≠0:=PO S T;obtain ⟨c,hc⟩:∃c,c=kM (32+(n+16)) (lU S (mulN T 9) n (bf b)):=⟨_,rfl⟩
 refine ⟨c,?_,?_,by rw [hc,dW];omega,hc▸pV fun i _=> XI _ _ _ _ i⟩
 ·unfold xP;rw [if_pos (dW _ _),Yo,←hS,←hT,←hn,if_neg hne,←hc]
 ·have hci:∀i,i<32+(n+16)->bf c i=lU S (mulN T 9) n (bf b) i:=fun i hi=> by rw [hc];exact om hi
  have e1:uW (bf c)=mulN S 9:=by
   rw [<-Pg S (mulN T 9) n (bf b)];exact gB fun i hi=> hci i (by omega)
  have eX:qE T (bf c)=mulN S (mulN T 9):=by unfold qE;rw [e1,abZ]
  have eK:LC T (bf c)=rH (mulN S (mulN T 9)) (mulN S 9) (mulN T 9):=by unfold LC;rw [eX,e1]
  have hhi:∀i,i<n+16->bf c (32+i)=ji (rH (mulN S (mulN T 9)) (mulN S 9) (mulN T 9)) Az 0 Az n (bf b) i:=fun i hi=> (hci (32+i) (by omega)).trans (congrFun (XH S (mulN T 9) n (bf b)) i);have eO:tC T n (bf c)=true:=by
   unfold tC;rw [eK,yx hhi];exact Aq
  have eH:kM n (LD T (bf c))=b:=by
   conv=> rhs;rw [<-FZ b]
   rw [<-hn];refine sF fun i hi=> ?_;unfold LD;rw [eK];have:=DX (key:=rH (mulN S (mulN T 9)) (mulN S 9) (mulN T 9)) (nonce:=Az) (nb:=0) (fb:=Az) (n:=n) (f:=bf b) (fun i hi=> hb.at i (by omega)) i hi;rw [<-this];show xo _ (bf c (32+i))=xo _ (ji _ _ _ _ _ _ i);rw [hhi i (by omega)]
  unfold pJ;rw [if_pos ha,hc,dW,←hc,if_neg (by omega),←hT,if_neg (by rw [eX];exact hne),show 32+(n+16) - 48=n by omega,if_pos eO,eH]
end Go.Proofs.YtpcjekgfnfjbpaaGreat
namespace Go.Proofs.YtpcjekgfnfjbpaaGreat
open Go.RowKit Go.bI Go.ChangeShapes Go.Maps
attribute [local go_sem ↓] Go.wp_at_zero Go.wp_at_succ
section
variable {B : Nat} {w w' w1 w2 w3 : World} {p q : Nat} {F F' G G' : Nat -> Prop} {sd : Nat -> Int} {n : Nat} {v u v' : Value} {l l' x : List Int} {X X' : Su} {S : TS}
noncomputable def xY (l x:List Int):List Int × Int:=if l.length=32 then (kM 64 (DN (sm 256 (bf l) 32) (bf x) x.length),0) else ([],11)
theorem Py (h:uJ B w p F (.by sd n)) (hb:eU F w v l) (hb':eU F w v' x) (hx:x.length<=1000):Calls Tryz.prog 37 #[.pointer (some ⟨p,0,none⟩),v,v'] w fun e w'=> ∃u,e=.returned (.tuple #[u,.int .i64 (xY l x).2])/\eU F w' u (xY l x).1/\Below w.heap.size w w':=by
 have HW:=ak (dP h.1.r);have HNF:=ak h.2;obtain ⟨R,hR⟩:∃R,R=xY l x:=⟨_,rfl⟩
 rw [<-hR];by_cases hl:l.length=32
 ·have hr1:=hb.rd;rw [hl] at hr1;have HK:=ak (jT hr1);have HE:Hid (R=(kM 64 (DN (sm 256 (bf l) 32) (bf x) x.length),0)):=ak (by rw [hR];exact if_pos hl);obtain ⟨D,hD⟩:∃D,D=DN (sm 256 (bf l) 32) (bf x) x.length:=⟨_,rfl⟩
  have Xx:Hid (∀i,0<=D i/\D i<256):=ak fun i=> hD▸aao _ _ _ i;have HX:=ak hb'.rd;obtain ⟨K,hK⟩:∃K,K=bf l:=⟨_,rfl⟩
  have Xt:Hid (∀w',Below w.heap.size w w'->Calls Tryz.prog 95 #[.agg (arr .u8 32 K),v'] w' fun e w2=> e=.returned (.agg (arr .u8 64 D))/\Below w'.heap.size w' w2):=ak fun w' bw=> by
   rw [hK,xK (fun i hi=> hb.ok.at i (by omega)),hD];exact Me _ _ _ _ w' (hb'.rd.below bw) (by omega) (fun i hi=> hb'.ok.at i hi)
  rw [<-hD] at HE;rw [<-hK] at HK;obtain ⟨av,cv,rfl,_⟩:=hb.rd;obtain ⟨Dc,cv',rfl,_⟩:=hb'.rd;clear hR hl hr1 hD hK hb hb' hx h
  go_enter Tryz.func37,Tryz.ntmps37
  go_wp2_with fail;refine HW.out.mono ?_;rintro e w1 ⟨rfl,rfl⟩;go_wp2_with fail;refine HK.out.mono ?_;rintro e w2 ⟨rfl,b2⟩;have B2:=ak b2;clear b2;go_upto_region 4 with (refine aF rfl 22 _ _ rfl .u8 w2.heap.size 32 (fun _=> 0) K dz rfl rfl (bG rfl (by rfl)) ?_);refine aG (fun w3=> aH .u8 w3 w2.heap.size 32 K/\Below w1.heap.size w1 w3) ⟨(show aH .u8 (w2.alloc (.cells (arr .u8 32 (fun _=> 0)) 22)) w2.heap.size 32 (fun _=> 0) from bG rfl rfl).setRow 32 K,aA (B2.out.alloc B2.out.size _) B2.out.size _⟩ ?_;rintro w3 ⟨h3,b3⟩;have H3:=ak h3;have B3:=ak b3;clear h3 b3;go_wp2_with (refine aM rfl 22 _ rfl .u8 w2.heap.size 32 K 5 dU dz rfl H3.out ?_);refine (Xt.out w3 B3.out).mono ?_;rintro e w4 ⟨rfl,b4⟩;have B4:=ak (B3.out.trans (b4.mono B3.out.size));clear b4;go_upto_region 7 with (refine aF rfl 47 _ _ rfl .u8 w4.heap.size 64 (fun _=> 0) D Cb rfl rfl (bG rfl (by rfl)) ?_);refine aG (fun w5=> aH .u8 w5 w4.heap.size 64 D/\Below w1.heap.size w1 w5) ⟨(show aH .u8 (w4.alloc (.cells (arr .u8 64 (fun _=> 0)) 47)) w4.heap.size 64 (fun _=> 0) from bG rfl rfl).setRow 64 D,aA (B4.out.alloc B4.out.size _) B4.out.size _⟩ ?_;rintro w5 ⟨h5,b5⟩;have H5:=ak (h5.rd (by decide));have B5:=ak b5;clear h5 b5;go_wp2;go_ret2;rw [HE.out];exact ⟨_,rfl,eU.any H5.out (fun i _=> Xx.out i) HNF.out,B5.out⟩
 ·have HK:=ak (mM hb.rd hl);have HE:Hid (R=([],11)):=ak (by rw [hR];exact if_neg hl);obtain ⟨av,cv,rfl,_⟩:=hb.rd;obtain ⟨Dc,cv',rfl,_⟩:=hb'.rd;clear hR h hb hb' hl
  go_enter Tryz.func37,Tryz.ntmps37
  go_wp2_with fail;refine HW.out.mono ?_;rintro e w1 ⟨rfl,rfl⟩;go_wp2_with fail;refine HK.out.mono ?_;rintro e w2 ⟨rfl,b2⟩;have B2:=ak b2;clear b2;go_upto_region 4 with (refine aF rfl 22 _ _ rfl .u8 w2.heap.size 32 (fun _=> 0) (fun _=> 0) dz rfl rfl (bG rfl (by rfl)) ?_);refine aG (fun w3=> Below w1.heap.size w1 w3) (aA (B2.out.alloc B2.out.size _) B2.out.size _) ?_;rintro w3 b3;have B3:=ak b3;clear b3;go_wp2;go_ret2;rw [HE.out];exact ⟨_,rfl,eU.nil _ _,B3.out⟩
theorem LX {a:List Int} {vx:Value} (h:uJ B w p F (.by sd n)) (hb:eU F w v (kM 32 (wN (bf a)))) (hy:eU F w vx x) (hb':eU F w v' (kM 64 (DN (sm 256 (bf a) 32) (bf x) x.length))) (hx:x.length<=1000):Calls Tryz.prog 42 #[.pointer (some ⟨p,0,none⟩),v,vx,v'] w fun e w'=> e=.returned (.int .i64 0)/\Below w.heap.size w w':=by
 have HW:=ak (dP h.1.r);obtain ⟨S0,hS0⟩:∃S0,S0=sm 256 (bf a) 32:=⟨_,rfl⟩
 have hr1:Rd .u8 w v 32 (dg 256 (Hr S0)):=by
  have:=hb.rd;rw [dW] at this;refine this.congr fun i hi=> ?_;rw [om hi,hS0]
  rfl
 have hr2:Rd .u8 w v' 64 (DN S0 (bf x) x.length):=by
  have:=hb'.rd;rw [dW] at this;refine this.congr fun i hi=> ?_;rw [om hi,hS0]
 have HK:=ak (jT hr1);obtain ⟨K,hK⟩:∃K,K=dg 256 (Hr S0):=⟨_,rfl⟩
 have HVE:Hid (∀w',Below w.heap.size w w'->Calls Tryz.prog 104 #[.agg (arr .u8 32 K),vx,v'] w' fun e w2=> e=.returned (.int .i64 0)/\Below w'.heap.size w' w2):=ak fun w' bw=> by
  rw [hK];exact Tz S0 vx v' x.length (bf x) w' (hy.rd.below bw) (hr2.below bw) (by omega) (fun i hi=> hy.ok.at i hi)
 rw [<-hK] at HK;obtain ⟨av,cv,rfl,_⟩:=hr1;obtain ⟨Dc,cv',rfl,_⟩:=hr2;obtain ⟨ax,cx,rfl,_⟩:=hy.rd;clear hK hb hb' hy hx h hS0
 go_enter Tryz.func42,Tryz.ntmps42
 go_wp2_with fail;refine HW.out.mono ?_;rintro e w1 ⟨rfl,rfl⟩;go_wp2_with fail;refine HK.out.mono ?_;rintro e w2 ⟨rfl,b2⟩;have B2:=ak b2;clear b2;go_upto_region 4 with (refine aF rfl 22 _ _ rfl .u8 w2.heap.size 32 (fun _=> 0) K dz rfl rfl (bG rfl (by rfl)) ?_);refine aG (fun w3=> aH .u8 w3 w2.heap.size 32 K/\Below w1.heap.size w1 w3) ⟨(show aH .u8 (w2.alloc (.cells (arr .u8 32 (fun _=> 0)) 22)) w2.heap.size 32 (fun _=> 0) from bG rfl rfl).setRow 32 K,aA (B2.out.alloc B2.out.size _) B2.out.size _⟩ ?_;rintro w3 ⟨h3,b3⟩;have H3:=ak h3;have B3:=ak b3;clear h3 b3;go_wp2_with (refine aM rfl 22 _ rfl .u8 w2.heap.size 32 K 5 dU dz rfl H3.out ?_);refine (HVE.out w3 B3.out).mono ?_;rintro e w4 ⟨rfl,b4⟩;have B4:=ak (B3.out.trans (b4.mono B3.out.size));clear b4;go_wp2;go_ret;exact ⟨rfl,B4.out⟩
theorem LV (s:Int) (w:World):Calls Tryz.prog 26 #[.pointer none,.int .i64 s] w fun e w'=> e=.returned (.tuple #[.slice none 0 0,.int .i64 1])/\w'=w:=by
 go_enter Tryz.func26,Tryz.ntmps26
 go_wp2_with fail;refine (jS w).mono ?_;rintro e w1 ⟨rfl,rfl⟩;go_wp2;go_ret2;exact ⟨rfl,rfl⟩
theorem EU (a:Option Addr) (m c:Nat) (w:World):Calls Tryz.prog 33 #[.pointer none,.slice a m c] w fun e w'=> e=.returned (.tuple #[.slice none 0 0,.int .i64 1])/\w'=w:=by
 go_enter Tryz.func33,Tryz.ntmps33
 go_wp2_with fail;refine (jS w).mono ?_;rintro e w1 ⟨rfl,rfl⟩;go_wp2;go_ret2;exact ⟨rfl,rfl⟩
theorem zT (a:Option Addr) (m c:Nat) (w:World):Calls Tryz.prog 34 #[.pointer none,.slice a m c] w fun e w'=> e=.returned (.tuple #[.slice none 0 0,.int .i64 1])/\w'=w:=by
 go_enter Tryz.func34,Tryz.ntmps34
 go_wp2_with fail;refine (jS w).mono ?_;rintro e w1 ⟨rfl,rfl⟩;go_wp2;go_ret2;exact ⟨rfl,rfl⟩
theorem II (a a1 a2:Option Addr) (m c m1 c1 m2 c2:Nat) (w:World):Calls Tryz.prog 42 #[.pointer none,.slice a m c,.slice a1 m1 c1,.slice a2 m2 c2] w fun e w'=> e=.returned (.int .i64 1)/\w'=w:=by
 go_enter Tryz.func42,Tryz.ntmps42
 go_wp2_with fail;refine (jS w).mono ?_;rintro e w1 ⟨rfl,rfl⟩;go_wp2;go_ret;exact ⟨rfl,rfl⟩
theorem IB (w:World):Calls Tryz.prog 27 #[.pointer none] w fun e w'=> e=.returned (.pointer none)/\w'=w:=by
 go_enter Tryz.func27,Tryz.ntmps27
 go_wp2_with fail;refine (jS w).mono ?_;rintro e w1 ⟨rfl,rfl⟩;go_wp2;go_ret;exact ⟨rfl,rfl⟩
theorem IG (w:World):Calls Tryz.prog 21 #[.pointer none] w fun e w'=> e=.returned (.int .i64 0)/\w'=w:=by
 go_enter Tryz.func21,Tryz.ntmps21
 go_wp2_with fail;refine (jS w).mono ?_;rintro e w1 ⟨rfl,rfl⟩;go_wp2;go_ret;exact ⟨rfl,rfl⟩
end
noncomputable def Su.sgn:Su->List Int->List Int->UA
 | .by sd n,a,x=> ((xY a x).1,(xY a x).2,.by sd n)
 | .tm S,a,x=> ((xX S a x).1,(xX S a x).2.1,.tm (xX S a x).2.2)
def Su.hol:Su->List Int->List Int->List Int->Prop
 | .by _ _,v,x,g=> ∃a,v=kM 32 (wN (bf a))/\g=kM 64 (DN (sm 256 (bf a) 32) (bf x) x.length)
 | .tm S,v,x,g=> qg S v x g=0
section
variable {B : Nat} {w w' w1 w2 w3 : World} {p q : Nat} {F F' G G' : Nat -> Prop} {sd : Nat -> Int} {n : Nat} {v u v' vx : Value} {l l' x : List Int} {X X' : Su} {S : TS}
theorem zU (h:uJ B w p F X) (hb:eU F w v l) (hb':eU F w v' x) (hx:x.length<=1000) (hn:X.size<=900):Calls Tryz.prog 37 #[.pointer (some ⟨p,0,none⟩),v,v'] w fun e w'=> ∃u,e=.returned (.tuple #[u,.int .i64 (X.sgn l x).2.1])/\Lm B w p F u (X.sgn l x) w':=by
 cases X with
 | «by» sd n=>
  refine (Py h hb hb' hx).mono ?_;rintro e w' ⟨u,e1,y,b⟩;exact ⟨u,e1,F,uJ.below h b,y,uM.of_below b F,fun b h=> .inl h⟩
 | tm S=> exact (Px h hb hb' hx hn).mono fun e w' ⟨u,h1,h2⟩=> ⟨u,h1,h2.su⟩
theorem xV (h:uJ B w p F X) (hb:eU F w v l) (hy:eU F w vx x) (hb':eU F w v' l') (hx:x.length<=1000) (hn:X.size<=900) (hh:X.hol l x l'):Calls Tryz.prog 42 #[.pointer (some ⟨p,0,none⟩),v,vx,v'] w fun e w'=> e=.returned (.int .i64 0)/\Below w.heap.size w w':=by
 cases X with
 | «by» sd n=>
  obtain ⟨a,rfl,rfl⟩:=hh;exact LX h hb hy hb' hx
 | tm S=>
  have h0:qg S l x l'=0:=hh;have:=LW h hb hy hb' (jG hn (by decide));rw [h0] at this;exact this
end
structure NM (B:Nat) (X0:Su) (x:List Int) (a k p v w c z:List Int) (X1 X2 X3 X4 X5 X6 X7:Su):Prop where
 d1:X0.draw 1=(a,0,X1)
 d2:X1.draw 3=(k,0,X2)
 pu:X2.pub a=(p,0,X3)
 ve:X3.ver a=(v,0,X4)
 wr:X4.wrp p k=(w,0,X5)
 uw:X5.unw a w=(k,0)
 lo:X5.lock k a=(c,0,X6)
 ul:X6.unlock k c=(a,0)
 sg:X6.sgn a x=(z,0,X7)
 ho:X7.hol v x z
 sz:X0.size<=10/\X1.size<=10/\X2.size<=10/\X3.size<=10/\X4.size<=10/\X5.size<=10/\X6.size<=10/\X7.size<=10
 ln:a.length<=100/\k.length<=100/\p.length<=100/\v.length<=100/\w.length<=200/\c.length<=200/\z.length<=100
theorem abU (B:Nat) (x:List Int):∃a k p v w c z X1 X2 X3 X4 X5 X6 X7,NM B (.tm ⟨[], []⟩) x a k p v w c z X1 X2 X3 X4 X5 X6 X7:=by
 refine ⟨fI 0,fI 1,fI 2,fI 3,fI 4,fI 5,fI 7,.tm ⟨[(1,1,0)], []⟩,.tm ⟨[(1,1,0),(1,3,0)], []⟩,.tm ⟨[(1,1,0),(1,3,0),(2,0,0)], []⟩,.tm ⟨[(1,1,0),(1,3,0),(2,0,0),(3,0,0)], []⟩,.tm ⟨[(1,1,0),(1,3,0),(2,0,0),(3,0,0),(4,2,1)], []⟩,.tm ⟨[(1,1,0),(1,3,0),(2,0,0),(3,0,0),(4,2,1),(5,1,0)], []⟩,.tm ⟨[(1,1,0),(1,3,0),(2,0,0),(3,0,0),(4,2,1),(5,1,0),(9,0,0),(8,0,6)], [x]⟩,
  by kernel_rfl,by kernel_rfl,by kernel_rfl,by kernel_rfl,by kernel_rfl,by kernel_rfl,by kernel_rfl,by kernel_rfl,by kernel_rfl,?_,by refine ⟨?_,?_,?_,?_,?_,?_,?_,?_⟩<;> exact Nat.le_of_ble_eq_true rfl,by simp [iI]⟩
 show qg ⟨[(1,1,0),(1,3,0),(2,0,0),(3,0,0),(4,2,1),(5,1,0),(9,0,0),(8,0,6)], [x]⟩ (fI 3) x (fI 7)=0;unfold qg;rw [show iN ⟨[(1,1,0),(1,3,0),(2,0,0),(3,0,0),(4,2,1),(5,1,0),(9,0,0),(8,0,6)], [x]⟩ (fI 3)=some 3 from by kernel_rfl,show iN ⟨[(1,1,0),(1,3,0),(2,0,0),(3,0,0),(4,2,1),(5,1,0),(9,0,0),(8,0,6)], [x]⟩ (fI 7)=some 7 from by kernel_rfl];exact if_pos ⟨by kernel_rfl,by kernel_rfl,by kernel_rfl,by kernel_rfl⟩
theorem abV (B:Nat) (sd:Nat->Int) (x:List Int):∃a k p v w c z X1 X2 X3 X4 X5 X6 X7,NM B (.by sd 0) x a k p v w c z X1 X2 X3 X4 X5 X6 X7:=by
 obtain ⟨a,ha⟩:∃a,a=kM 32 (jw sd 0):=⟨_,rfl⟩
 obtain ⟨k,hk⟩:∃a,a=kM 32 (jw sd 1):=⟨_,rfl⟩
 have la:a.length=32:=by rw [ha,dW]
 have lk:k.length=32:=by rw [hk,dW]
 have oa:okB a:=ha▸pV fun i _=> sH sd 0 i;have ok:okB k:=hk▸pV fun i _=> sH sd 1 i;obtain ⟨w,h1,h2,h3,h4⟩:=GK sd 2 la ok;obtain ⟨c,X',g1,g2,g3,g4,g5,g6⟩:=Su.YW (X:=.by sd 3) (l:=k) (l':=a) trivial (show 3<=900 by decide) lk la oa;have gu:=Su.Ph (jG g6 (show 3+1<=900 by decide)) g3;have gX:X'=.by sd 4:=by
  have e:Ej sd 3 k a= _:=if_pos lk;have g1':Ej sd 3 k a=(c,0,X'):=g1;rw [e] at g1';exact (Prod.mk.inj (Prod.mk.inj g1').2).2.symm
 subst gX;have hs:xY a x=(kM 64 (DN (sm 256 (bf a) 32) (bf x) x.length),0):=if_pos la;refine ⟨a,k,kM 32 (vI (bf a)),kM 32 (wN (bf a)),w,c,kM 64 (DN (sm 256 (bf a) 32) (bf x) x.length),.by sd 1,.by sd 2,.by sd 2,.by sd 2,.by sd 3,.by sd 4,.by sd 4,?_,?_,if_pos la,if_pos la,h1,h2,g1,gu,?_,⟨a,rfl,rfl⟩,?_,?_⟩
 ·rw [ha];show (if isSort 1=true then (kM 32 (jw sd 0),(0:Int),Su.by sd 1) else ([],2,.by sd 0))= _;rw [if_pos (by decide)]
 ·rw [hk];show (if isSort 3=true then (kM 32 (jw sd 1),(0:Int),Su.by sd 2) else ([],2,.by sd 1))= _;rw [if_pos (by decide)]
 ·show ((xY a x).1,(xY a x).2,Su.by sd 4)= _;rw [hs]
 ·exact ⟨(by show 0<=10;decide),(by show 1<=10;decide),(by show 2<=10;decide),(by show 2<=10;decide),(by show 2<=10;decide),(by show 3<=10;decide),(by show 4<=10;decide),(by show 4<=10;decide)⟩
 ·refine ⟨by omega,by omega,by rw [dW];decide,by rw [dW];decide,by omega,by omega,by rw [dW];decide⟩
theorem UC (B:Nat) (bw:Bool) (sd:Nat->Int) (x:List Int):∃a k p v w c z X1 X2 X3 X4 X5 X6 X7,NM B (Su.new bw sd) x a k p v w c z X1 X2 X3 X4 X5 X6 X7:=by
 cases bw with
 | true=> exact abV B sd x
 | false=> exact abU B x
theorem Cm (w:World) (sd:Nat->Int) (hs:∀i,i<32->0<=sd i/\sd i<256) (v:Value) (n:Nat) (f:Nat->Int) (hv:Rd .u8 w v n f) (hf:∀i,i<n->0<=f i/\f i<256) (y:Bool):
  Calls Tryz.prog 9 #[.agg (arr .u8 32 sd),v,.bool y] w fun e w'=> e=.returned (.bool true)/\Below w.heap.size w w':=by
 have HSD:=ak hs;have HV:=ak hv;have HF:=ak hf;obtain ⟨av,cv,rfl,_⟩:=hv;clear hs hf
 go_enter Tryz.func9,Tryz.ntmps9
 go_upto_region 1 with (fail);refine aG (fun w1=> aH .u8 w1 w.heap.size 32 sd/\Below w.heap.size w w1) ⟨bG rfl rfl,(bM _ _).alloc (bB _) _⟩ ?_;rintro w1 ⟨h1,b1⟩;have H1:=ak h1;have B1:=ak b1;clear h1 b1;go_wp2_with fail;refine (ZI w1).mono ?_;rintro e w2 ⟨rfl,b2⟩;have H2:=ak (H1.out.kept b2);have B2:=ak (B1.out.trans (b2.mono B1.out.size));clear b2;by_cases agI:200<n
 ·have q:(200:Int)<(n:Int):=by omega
  clear agI;go_wp2;go_ret;exact ⟨rfl,B2.out⟩
 have HN:Hid (n<=200):=ak (by omega);have q:¬ (200:Int)<(n:Int):=by omega
 clear agI;go_wp2_with fail;refine (LV 1 w2).mono ?_;rintro e w3 ⟨rfl,e3⟩;have e4:=e3.symm;clear e3;subst e4;go_wp2_with fail;refine (EU none 0 0 w2).mono ?_;rintro e w3 ⟨rfl,e3⟩;have e4:=e3.symm;clear e3;subst e4;go_wp2_with fail;refine (zT none 0 0 w2).mono ?_;rintro e w3 ⟨rfl,e3⟩;have e4:=e3.symm;clear e3;subst e4;go_wp2_with fail;refine (II none none none 0 0 0 0 0 0 w2).mono ?_;rintro e w3 ⟨rfl,e3⟩;have e4:=e3.symm;clear e3;subst e4;go_wp2_with fail;refine (IB w2).mono ?_;rintro e w3 ⟨rfl,e3⟩;have e4:=e3.symm;clear e3;subst e4;go_wp2_with fail;refine (IG w2).mono ?_;rintro e w3 ⟨rfl,e3⟩;have e4:=e3.symm;clear e3;subst e4;go_wp2_with fail;refine (xU w2).mono ?_;rintro e w4 ⟨p,F,rfl,hm,b4⟩;have HM:=ak hm;have B4:=ak b4;clear hm b4;obtain ⟨x,hx⟩:∃x,x=kM n f:=⟨_,rfl⟩
 have HXL:Hid (x.length=n):=ak (by rw [hx,dW]);have HXO:Hid (okB x):=ak (hx▸pV fun i hi=> HF.out i hi);have HXR:Hid (∀w',Below w.heap.size w w'->Rd .u8 w' (.slice av n cv) x.length (bf x)):=ak fun w' hb=> by rw [hx];exact (HV.out.below hb).kM
 have HXA:Hid (0<n->∀b,(Value.slice av n cv).ownBlock=some b->b<w.heap.size):=ak fun h0 b hb=> HV.out.OY h0 hb;clear hx
 cases y with
 | false=>
  have N0:Hid (RP w w2.heap.size w4 p F (Su.new false sd) [(.slice av n cv,x)]):=ak (.one HM.out (B2.out.trans (B4.out.mono B2.out.size)) ⟨HXO.out,HXR.out _ (B2.out.trans (B4.out.mono B2.out.size)),fun h0 b hb hf=> by
   have h1:=HXA.out (by have:=HXL.out;omega) b hb;have h2:=sW.hi HM.out hf;have h3:=B2.out.size;omega⟩ B2.out.size)
  obtain ⟨a,k,pb,vf,wr,ca,z,X1,X2,X3,X4,X5,X6,X7,ho⟩:=UC 0 false sd x;have O:=ak ho;obtain ⟨X0,hX0⟩:∃X,X=Su.new false sd:=⟨_,rfl⟩
  rw [<-hX0] at N0;have OD:=ak (show X0.draw 1=(a,0,X1) from hX0▸ho.d1);have OS:=ak (show X0.size<=10 from hX0▸ho.sz.1);clear ho hX0;go_wp2_with fail;have C1:=ak (pO N0.out.m 1 (by have:=OS.out;omega));rw [OD.out] at C1;refine C1.out.mono ?_;rintro e SE ⟨u1,rfl,r1⟩;obtain ⟨F1,n1⟩:=N0.out.step r1;have N1:=ak n1;obtain ⟨a1,c1,rfl⟩:=(n1.y 0 _ _ rfl).slice;clear r1 n1 C1;go_wp2_with fail;have C2:=ak (pO N1.out.m 3 (by have:=O.out.sz;show X1.size<=900;omega));rw [O.out.d2] at C2;refine C2.out.mono ?_;rintro e w12 ⟨u2,rfl,r2⟩;obtain ⟨F2,n2⟩:=N1.out.step r2;have N2:=ak n2;obtain ⟨a2,c2,rfl⟩:=(n2.y 0 _ _ rfl).slice;clear r2 n2 C2;go_wp2_with fail;have C3:=ak (vw N2.out.m (N2.out.y 1 _ _ rfl) (by have:=O.out.sz;show X2.size<=900;omega));rw [O.out.pu] at C3;refine C3.out.mono ?_;rintro e w13 ⟨u3,rfl,r3⟩;obtain ⟨F3,n3⟩:=N2.out.step r3;have N3:=ak n3;obtain ⟨a3,c3,rfl⟩:=(n3.y 0 _ _ rfl).slice;clear r3 n3 C3;go_wp2_with fail;have C4:=ak (qK N3.out.m (N3.out.y 2 _ _ rfl) (by have:=O.out.sz;show X3.size<=900;omega));rw [O.out.ve] at C4;refine C4.out.mono ?_;rintro e w14 ⟨u4,rfl,r4⟩;obtain ⟨F4,n4⟩:=N3.out.step r4;have N4:=ak n4;obtain ⟨a4,c4,rfl⟩:=(n4.y 0 _ _ rfl).slice;clear r4 n4 C4;go_wp2_with fail;have C5:=ak (zS N4.out.m (N4.out.y 1 _ _ rfl) (N4.out.y 2 _ _ rfl) (by have:=O.out.ln;show k.length<=300;omega) (by have:=O.out.sz;show X4.size<=900;omega));rw [O.out.wr] at C5;refine C5.out.mono ?_;rintro e w15 ⟨u5,rfl,r5⟩;obtain ⟨F5,n5⟩:=N4.out.step r5;have N5:=ak n5;obtain ⟨a5,c5,rfl⟩:=(n5.y 0 _ _ rfl).slice;clear r5 n5 C5;go_wp2_with fail;have C6:=ak (uY N5.out.m (N5.out.y 4 _ _ rfl) (N5.out.y 0 _ _ rfl) (by have:=O.out.ln;show wr.length<=400;omega) (by have:=O.out.sz;show X5.size<=900;omega));rw [O.out.uw] at C6;refine C6.out.mono ?_;rintro e w16 ⟨u6,rfl,y6,b6⟩;have N6:=ak (N5.out.more b6 y6);obtain ⟨a6,c6,rfl⟩:=y6.slice;clear y6 b6 C6;go_wp2_with fail;have C7:=ak (zV N6.out.m (N6.out.y 4 _ _ rfl) (N6.out.y 5 _ _ rfl) (by have:=O.out.sz;show X5.size<=900;omega) (by have:=O.out.ln;show a.length<=1000;omega));rw [O.out.lo] at C7;refine C7.out.mono ?_;rintro e w17 ⟨u7,rfl,r7⟩;obtain ⟨F7,n7⟩:=N6.out.step r7;have N7:=ak n7;obtain ⟨a7,c7,rfl⟩:=(n7.y 0 _ _ rfl).slice;clear r7 n7 C7;go_wp2_with fail;have C8:=ak (uZ N7.out.m (N7.out.y 5 _ _ rfl) (N7.out.y 0 _ _ rfl) (by have:=O.out.sz;show X6.size<=900;omega) (by have:=O.out.ln;show ca.length<=1000;omega));rw [O.out.ul] at C8;refine C8.out.mono ?_;rintro e w18 ⟨u8,rfl,y8,b8⟩;have N8:=ak (N7.out.more b8 y8);obtain ⟨a8,c8,rfl⟩:=y8.slice;clear y8 b8 C8;go_wp2_with fail;have C9:=ak (zU N8.out.m (N8.out.y 7 _ _ rfl) (N8.out.y 8 _ _ rfl) (by have:=HXL.out;have:=HN.out;show x.length<=1000;omega) (by have:=O.out.sz;show X6.size<=900;omega));rw [O.out.sg] at C9;refine C9.out.mono ?_;rintro e w19 ⟨u9,rfl,r9⟩;obtain ⟨F9,n9⟩:=N8.out.step r9;have N9:=ak n9;obtain ⟨a9,c9,rfl⟩:=(n9.y 0 _ _ rfl).slice;clear r9 n9 C9;go_wp2_with fail;have D1:=ak (qP _ _ _ _ _ w19 (N9.out.y 3 _ _ rfl).rd (N9.out.y 7 _ _ rfl).rd fun _ _=> rfl);refine D1.out.mono ?_;rintro e w20 ⟨rfl,b20⟩;have N10:=ak (N9.out.below b20);clear b20 D1;go_wp2_with fail;have D2:=ak (qP _ _ _ _ _ w20 (N10.out.y 1 _ _ rfl).rd (N10.out.y 8 _ _ rfl).rd fun _ _=> rfl);refine D2.out.mono ?_;rintro e w21 ⟨rfl,b21⟩;have Xn:=ak (N10.out.below b21);clear b21 D2;go_wp2_with fail;have D3:=ak (xV Xn.out.m (Xn.out.y 5 _ _ rfl) (Xn.out.y 9 _ _ rfl) (Xn.out.y 0 _ _ rfl) (by have:=HXL.out;have:=HN.out;show x.length<=1000;omega) (by have:=O.out.sz;show X7.size<=900;omega) O.out.ho);refine D3.out.mono ?_;rintro e w22 ⟨rfl,b22⟩;have N12:=ak (Xn.out.below b22);clear b22 D3;go_wp2;go_ret;exact ⟨rfl,N12.out.b⟩
 | true=>
  go_wp2_with (refine aM rfl 22 _ rfl .u8 w.heap.size 32 sd 5 dU dz rfl (H2.out.kept B4.out) ?_);refine (xW sd HSD.out w4).mono ?_;rintro e w5 ⟨p5,rfl,h5,b5⟩;have N0:Hid (RP w w4.heap.size w5 p5 (fun _=> False) (Su.new true sd) [(.slice av n cv,x)]):=ak (.one ⟨h5,fun _ h=> h⟩ ((B2.out.trans (B4.out.mono B2.out.size)).trans (b5.mono (B2.out.trans (B4.out.mono B2.out.size)).size)) ⟨HXO.out,HXR.out _ ((B2.out.trans (B4.out.mono B2.out.size)).trans (b5.mono (B2.out.trans (B4.out.mono B2.out.size)).size)),fun _ _ _ hf=> hf⟩ (B2.out.trans (B4.out.mono B2.out.size)).size);clear h5 b5;obtain ⟨a,k,pb,vf,wr,ca,z,X1,X2,X3,X4,X5,X6,X7,ho⟩:=UC 0 true sd x;have O:=ak ho;obtain ⟨X0,hX0⟩:∃X,X=Su.new true sd:=⟨_,rfl⟩
  rw [<-hX0] at N0;have OD:=ak (show X0.draw 1=(a,0,X1) from hX0▸ho.d1);have OS:=ak (show X0.size<=10 from hX0▸ho.sz.1);clear ho hX0;go_wp2_with fail;have C1:=ak (pO N0.out.m 1 (by have:=OS.out;omega));rw [OD.out] at C1;refine C1.out.mono ?_;rintro e SE ⟨u1,rfl,r1⟩;obtain ⟨F1,n1⟩:=N0.out.step r1;have N1:=ak n1;obtain ⟨a1,c1,rfl⟩:=(n1.y 0 _ _ rfl).slice;clear r1 n1 C1;go_wp2_with fail;have C2:=ak (pO N1.out.m 3 (by have:=O.out.sz;show X1.size<=900;omega));rw [O.out.d2] at C2;refine C2.out.mono ?_;rintro e w12 ⟨u2,rfl,r2⟩;obtain ⟨F2,n2⟩:=N1.out.step r2;have N2:=ak n2;obtain ⟨a2,c2,rfl⟩:=(n2.y 0 _ _ rfl).slice;clear r2 n2 C2;go_wp2_with fail;have C3:=ak (vw N2.out.m (N2.out.y 1 _ _ rfl) (by have:=O.out.sz;show X2.size<=900;omega));rw [O.out.pu] at C3;refine C3.out.mono ?_;rintro e w13 ⟨u3,rfl,r3⟩;obtain ⟨F3,n3⟩:=N2.out.step r3;have N3:=ak n3;obtain ⟨a3,c3,rfl⟩:=(n3.y 0 _ _ rfl).slice;clear r3 n3 C3;go_wp2_with fail;have C4:=ak (qK N3.out.m (N3.out.y 2 _ _ rfl) (by have:=O.out.sz;show X3.size<=900;omega));rw [O.out.ve] at C4;refine C4.out.mono ?_;rintro e w14 ⟨u4,rfl,r4⟩;obtain ⟨F4,n4⟩:=N3.out.step r4;have N4:=ak n4;obtain ⟨a4,c4,rfl⟩:=(n4.y 0 _ _ rfl).slice;clear r4 n4 C4;go_wp2_with fail;have C5:=ak (zS N4.out.m (N4.out.y 1 _ _ rfl) (N4.out.y 2 _ _ rfl) (by have:=O.out.ln;show k.length<=300;omega) (by have:=O.out.sz;show X4.size<=900;omega));rw [O.out.wr] at C5;refine C5.out.mono ?_;rintro e w15 ⟨u5,rfl,r5⟩;obtain ⟨F5,n5⟩:=N4.out.step r5;have N5:=ak n5;obtain ⟨a5,c5,rfl⟩:=(n5.y 0 _ _ rfl).slice;clear r5 n5 C5;go_wp2_with fail;have C6:=ak (uY N5.out.m (N5.out.y 4 _ _ rfl) (N5.out.y 0 _ _ rfl) (by have:=O.out.ln;show wr.length<=400;omega) (by have:=O.out.sz;show X5.size<=900;omega));rw [O.out.uw] at C6;refine C6.out.mono ?_;rintro e w16 ⟨u6,rfl,y6,b6⟩;have N6:=ak (N5.out.more b6 y6);obtain ⟨a6,c6,rfl⟩:=y6.slice;clear y6 b6 C6;go_wp2_with fail;have C7:=ak (zV N6.out.m (N6.out.y 4 _ _ rfl) (N6.out.y 5 _ _ rfl) (by have:=O.out.sz;show X5.size<=900;omega) (by have:=O.out.ln;show a.length<=1000;omega));rw [O.out.lo] at C7;refine C7.out.mono ?_;rintro e w17 ⟨u7,rfl,r7⟩;obtain ⟨F7,n7⟩:=N6.out.step r7;have N7:=ak n7;obtain ⟨a7,c7,rfl⟩:=(n7.y 0 _ _ rfl).slice;clear r7 n7 C7;go_wp2_with fail;have C8:=ak (uZ N7.out.m (N7.out.y 5 _ _ rfl) (N7.out.y 0 _ _ rfl) (by have:=O.out.sz;show X6.size<=900;omega) (by have:=O.out.ln;show ca.length<=1000;omega));rw [O.out.ul] at C8;refine C8.out.mono ?_;rintro e w18 ⟨u8,rfl,y8,b8⟩;have N8:=ak (N7.out.more b8 y8);obtain ⟨a8,c8,rfl⟩:=y8.slice;clear y8 b8 C8;go_wp2_with fail;have C9:=ak (zU N8.out.m (N8.out.y 7 _ _ rfl) (N8.out.y 8 _ _ rfl) (by have:=HXL.out;have:=HN.out;show x.length<=1000;omega) (by have:=O.out.sz;show X6.size<=900;omega));rw [O.out.sg] at C9;refine C9.out.mono ?_;rintro e w19 ⟨u9,rfl,r9⟩;obtain ⟨F9,n9⟩:=N8.out.step r9;have N9:=ak n9;obtain ⟨a9,c9,rfl⟩:=(n9.y 0 _ _ rfl).slice;clear r9 n9 C9;go_wp2_with fail;have D1:=ak (qP _ _ _ _ _ w19 (N9.out.y 3 _ _ rfl).rd (N9.out.y 7 _ _ rfl).rd fun _ _=> rfl);refine D1.out.mono ?_;rintro e w20 ⟨rfl,b20⟩;have N10:=ak (N9.out.below b20);clear b20 D1;go_wp2_with fail;have D2:=ak (qP _ _ _ _ _ w20 (N10.out.y 1 _ _ rfl).rd (N10.out.y 8 _ _ rfl).rd fun _ _=> rfl);refine D2.out.mono ?_;rintro e w21 ⟨rfl,b21⟩;have Xn:=ak (N10.out.below b21);clear b21 D2;go_wp2_with fail;have D3:=ak (xV Xn.out.m (Xn.out.y 5 _ _ rfl) (Xn.out.y 9 _ _ rfl) (Xn.out.y 0 _ _ rfl) (by have:=HXL.out;have:=HN.out;show x.length<=1000;omega) (by have:=O.out.sz;show X7.size<=900;omega) O.out.ho);refine D3.out.mono ?_;rintro e w22 ⟨rfl,b22⟩;have N12:=ak (Xn.out.below b22);clear b22 D3;go_wp2;go_ret;exact ⟨rfl,N12.out.b⟩
theorem Cn (w:World) (sd:Nat->Int) (hs:∀i,i<32->(Lit.int .u8 (sd i)).wf=true) (v:Value) (n:Nat) (f:Nat->Int) (hv:Rd .u8 w v n f) (hf:∀i,i<n->(Lit.int .u8 (f i)).wf=true) (y:Bool):
  Calls Tryz.prog 9 #[.agg (arr .u8 32 sd),v,.bool y] w fun e w'=> e=.returned (.bool true)/\Below w.heap.size w w':=
 Cm w sd (fun i hi=> by have:=bounds_u8 (hs i hi);omega) v n f hv (fun i hi=> by have:=bounds_u8 (hf i hi);omega) y
end Go.Proofs.YtpcjekgfnfjbpaaGreat
