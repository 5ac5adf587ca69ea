/-
  Part 54 of EscrowTake. Conditions: named in each theorem.
-/
import Derived.Test.YtpcjekgfnfjbpaaGreatPkEscrowTake52
import Derived.Test.YtpcjekgfnfjbpaaGreatPkEscrowTake53
set_option linter.unusedVariables false
set_option linter.unusedSimpArgs false
set_option maxRecDepth 100000
set_option maxHeartbeats 12800000
namespace Go.Proofs.YtpcjekgfnfjbpaaGreat
open Go.RowKit Go.aZ Go.ChangeShapes Go.Maps
attribute [local go_sem ↓] Go.wp_at_zero Go.wp_at_succ
noncomputable def oP (f:Nat->Int):Nat->Int:=dg 256 (mulN (sm 256 f 32) 9)
noncomputable def rG (f:Nat->Int):Nat->Int:=dg 256 (sdU (sm 256 f 32))
theorem aaS (f:Nat->Int) (i:Nat):0<=oP f i/\oP f i<256:=bE (by decide) _ _
theorem aaj (f:Nat->Int) (i:Nat):0<=rG f i/\rG f i<256:=bE (by decide) _ _
theorem Am {f:Nat->Int} {m:Nat} (hf:∀i,i<m->0<=f i/\f i<256):arr .u8 m f=arr .u8 m (dg 256 (sm 256 f m)):=gJ fun i hi=> (xB (by decide) hf i hi).symm
theorem Sc (f:Nat->Int) (hf:∀i,i<32->0<=f i/\f i<256) (w:World):Calls Tryz.prog 90 #[.agg (arr .u8 32 f)] w fun e w'=> e=.returned (.agg (arr .u8 32 (oP f)))/\Below w.heap.size w w':=by
 rw [Am hf];exact oQ _ w
theorem QS (f:Nat->Int) (hf:∀i,i<32->0<=f i/\f i<256) (w:World):Calls Tryz.prog 92 #[.agg (arr .u8 32 f)] w fun e w'=> e=.returned (.agg (arr .u8 32 (rG f)))/\Below w.heap.size w w':=by
 rw [Am hf];exact DC _ w
section
variable {B : Nat} {w w' w1 w2 w3 : World} {p q : Nat} {F F' G G' : Nat -> Prop} {sd : Nat -> Int} {n : Nat} {v u v' : Value} {l l' : List Int} {X X' : Su} {S : TS}
theorem Bb (hl:l.length=32) (ho:okB l) (h:Rd .u8 w v l.length (bf l)):Calls Tryz.prog 89 #[v,.func (.func 90) #[] #[]] w fun e w'=> ∃u,e=.returned (.tuple #[u,.int .i64 0])/\Rd .u8 w' u 32 (oP (bf l))/\Below w.heap.size w w':=by
 rw [hl] at h;have HK:=ak (qQ h);have HC:=ak (fun w=> Sc (bf l) (fun i hi=> ho.at i (by omega)) w);obtain ⟨a,c,rfl,h1,h2,_,h4⟩:=h;obtain ⟨D,hD⟩:∃D,D=oP (bf l):=⟨_,rfl⟩
 rw [<-hD] at HC ⊢;clear hD h4 hl ho
 go_enter Tryz.func89,Tryz.ntmps89
 go_wp2_with fail;refine HK.out.mono ?_;rintro e w1 ⟨rfl,b1⟩;have B1:=ak b1;clear b1;obtain ⟨f,hf⟩:∃f,f=bf l:=⟨_,rfl⟩
 rw [<-hf] at HC ⊢;clear hf;go_upto_region 2 with (refine aG rfl 22 _ _ rfl .u8 w1.heap.size 32 (fun _=> 0) f eT rfl rfl (bM rfl (by rfl)) ?_);refine aD (fun w2=> aF .u8 w2 w1.heap.size 32 f/\Below w.heap.size w w2) ⟨(show aF .u8 (w1.alloc (.cells (arr .u8 32 (fun _=> 0)) 22)) w1.heap.size 32 (fun _=> 0) from bM rfl rfl).setRow 32 f,ay (B1.out.alloc B1.out.size _) B1.out.size _⟩ ?_;rintro w2 ⟨h2,b2⟩;have H2:=ak h2;have B2:=ak b2;clear h2 b2;go_wp2_with (refine aQ rfl 22 _ rfl .u8 w1.heap.size 32 f 5 gH eT rfl H2.out ?_);refine (HC.out _).mono ?_;rintro e w3 ⟨rfl,b3⟩;have B3:=ak (B2.out.trans (b3.mono B2.out.size));clear b3;go_upto_region 5 with (refine aG rfl 22 _ _ rfl .u8 w3.heap.size 32 (fun _=> 0) D eT rfl rfl (bM rfl (by rfl)) ?_);refine aD (fun w4=> aF .u8 w4 w3.heap.size 32 D/\Below w.heap.size w w4) ⟨(show aF .u8 (w3.alloc (.cells (arr .u8 32 (fun _=> 0)) 22)) w3.heap.size 32 (fun _=> 0) from bM rfl rfl).setRow 32 D,ay (B3.out.alloc B3.out.size _) B3.out.size _⟩ ?_;rintro w4 ⟨h4,b4⟩;have HR:=ak (h4.rd (by decide));have B4:=ak b4;clear h4 b4;go_wp2;go_ret2;exact ⟨_,rfl,HR.out,B4.out⟩
theorem xM (hl:l.length≠32) (h:Rd .u8 w v l.length (bf l)):Calls Tryz.prog 89 #[v,.func (.func 90) #[] #[]] w fun e w'=> e=.returned (.tuple #[.slice none 0 0,.int .i64 11])/\Below w.heap.size w w':=by
 have HK:=ak (uf h hl);obtain ⟨a,c,rfl,h1,h2,_,h4⟩:=h;clear h4 hl
 go_enter Tryz.func89,Tryz.ntmps89
 go_wp2_with fail;refine HK.out.mono ?_;rintro e w1 ⟨rfl,b1⟩;have B1:=ak b1;clear b1;go_upto_region 2 with (refine aG rfl 22 _ _ rfl .u8 w1.heap.size 32 (fun _=> 0) (fun _=> 0) eT rfl rfl (bM rfl (by rfl)) ?_);refine aD (fun w2=> Below w.heap.size w w2) (ay (B1.out.alloc B1.out.size _) B1.out.size _) ?_;rintro w2 b2;have B2:=ak b2;clear b2;go_wp2;go_ret2;exact ⟨rfl,B2.out⟩
theorem Ga (h:sI B w p F (.by sd n)) (hb:dK F w v l):Calls Tryz.prog 33 #[.pointer (some ⟨p,0,none⟩),v] w fun e w'=> ∃u,e=.returned (.tuple #[u,.int .i64 (Br oP sd n l).2.1])/\QH B w p F u (Br oP sd n l) w':=by
 have HQ:=ak h;have HW:=ak (fG h.1.r);obtain ⟨R,hR⟩:∃x,x=Br oP sd n l:=⟨_,rfl⟩
 rw [<-hR];have HR:=ak hR;by_cases hl:l.length=32
 ·have HC:=ak (Bb hl hb.ok hb.rd);have HE:Hid (R=(nu 32 (oP (bf l)),0,.by sd n)):=ak (by rw [HR.out];exact if_pos hl);obtain ⟨av,cv,rfl,_⟩:=hb.rd;clear hR h hb hl
  go_enter Tryz.func33,Tryz.ntmps33
  go_wp2_with fail;refine HW.out.mono ?_;rintro e w1 ⟨rfl,rfl⟩;go_wp2_with fail;refine HC.out.mono ?_;rintro e w2 ⟨u,rfl,hr,b2⟩;have HD:=ak (Dy HQ.out (HQ.out.1.below b2) (ku.of_below b2 _) hr (fun i _=> aaS (bf l) i) 0);clear hr b2;go_wp2;go_ret2;rw [HE.out];exact ⟨u,rfl,HD.out⟩
 ·have HC:=ak (xM hl hb.rd);have HE:Hid (R=([],11,.by sd n)):=ak (by rw [HR.out];exact if_neg hl);obtain ⟨av,cv,rfl,_⟩:=hb.rd;clear hR h hb hl
  go_enter Tryz.func33,Tryz.ntmps33
  go_wp2_with fail;refine HW.out.mono ?_;rintro e w1 ⟨rfl,rfl⟩;go_wp2_with fail;refine HC.out.mono ?_;rintro e w2 ⟨rfl,b2⟩;have HD:=ak (tZ HQ.out b2 11);clear b2;go_wp2;go_ret2;rw [HE.out];exact ⟨_,rfl,HD.out⟩
theorem xL (hl:l.length=32) (ho:okB l) (h:Rd .u8 w v l.length (bf l)):Calls Tryz.prog 89 #[v,.func (.func 92) #[] #[]] w fun e w'=> ∃u,e=.returned (.tuple #[u,.int .i64 0])/\Rd .u8 w' u 32 (rG (bf l))/\Below w.heap.size w w':=by
 rw [hl] at h;have HK:=ak (qQ h);have HC:=ak (fun w=> QS (bf l) (fun i hi=> ho.at i (by omega)) w);obtain ⟨a,c,rfl,h1,h2,_,h4⟩:=h;obtain ⟨D,hD⟩:∃D,D=rG (bf l):=⟨_,rfl⟩
 rw [<-hD] at HC ⊢;clear hD h4 hl ho
 go_enter Tryz.func89,Tryz.ntmps89
 go_wp2_with fail;refine HK.out.mono ?_;rintro e w1 ⟨rfl,b1⟩;have B1:=ak b1;clear b1;obtain ⟨f,hf⟩:∃f,f=bf l:=⟨_,rfl⟩
 rw [<-hf] at HC ⊢;clear hf;go_upto_region 2 with (refine aG rfl 22 _ _ rfl .u8 w1.heap.size 32 (fun _=> 0) f eT rfl rfl (bM rfl (by rfl)) ?_);refine aD (fun w2=> aF .u8 w2 w1.heap.size 32 f/\Below w.heap.size w w2) ⟨(show aF .u8 (w1.alloc (.cells (arr .u8 32 (fun _=> 0)) 22)) w1.heap.size 32 (fun _=> 0) from bM rfl rfl).setRow 32 f,ay (B1.out.alloc B1.out.size _) B1.out.size _⟩ ?_;rintro w2 ⟨h2,b2⟩;have H2:=ak h2;have B2:=ak b2;clear h2 b2;go_wp2_with (refine aQ rfl 22 _ rfl .u8 w1.heap.size 32 f 5 gH eT rfl H2.out ?_);refine (HC.out _).mono ?_;rintro e w3 ⟨rfl,b3⟩;have B3:=ak (B2.out.trans (b3.mono B2.out.size));clear b3;go_upto_region 5 with (refine aG rfl 22 _ _ rfl .u8 w3.heap.size 32 (fun _=> 0) D eT rfl rfl (bM rfl (by rfl)) ?_);refine aD (fun w4=> aF .u8 w4 w3.heap.size 32 D/\Below w.heap.size w w4) ⟨(show aF .u8 (w3.alloc (.cells (arr .u8 32 (fun _=> 0)) 22)) w3.heap.size 32 (fun _=> 0) from bM rfl rfl).setRow 32 D,ay (B3.out.alloc B3.out.size _) B3.out.size _⟩ ?_;rintro w4 ⟨h4,b4⟩;have HR:=ak (h4.rd (by decide));have B4:=ak b4;clear h4 b4;go_wp2;go_ret2;exact ⟨_,rfl,HR.out,B4.out⟩
theorem tY (hl:l.length≠32) (h:Rd .u8 w v l.length (bf l)):Calls Tryz.prog 89 #[v,.func (.func 92) #[] #[]] w fun e w'=> e=.returned (.tuple #[.slice none 0 0,.int .i64 11])/\Below w.heap.size w w':=by
 have HK:=ak (uf h hl);obtain ⟨a,c,rfl,h1,h2,_,h4⟩:=h;clear h4 hl
 go_enter Tryz.func89,Tryz.ntmps89
 go_wp2_with fail;refine HK.out.mono ?_;rintro e w1 ⟨rfl,b1⟩;have B1:=ak b1;clear b1;go_upto_region 2 with (refine aG rfl 22 _ _ rfl .u8 w1.heap.size 32 (fun _=> 0) (fun _=> 0) eT rfl rfl (bM rfl (by rfl)) ?_);refine aD (fun w2=> Below w.heap.size w w2) (ay (B1.out.alloc B1.out.size _) B1.out.size _) ?_;rintro w2 b2;have B2:=ak b2;clear b2;go_wp2;go_ret2;exact ⟨rfl,B2.out⟩
theorem Ba (h:sI B w p F (.by sd n)) (hb:dK F w v l):Calls Tryz.prog 34 #[.pointer (some ⟨p,0,none⟩),v] w fun e w'=> ∃u,e=.returned (.tuple #[u,.int .i64 (Br rG sd n l).2.1])/\QH B w p F u (Br rG sd n l) w':=by
 have HQ:=ak h;have HW:=ak (fG h.1.r);obtain ⟨R,hR⟩:∃x,x=Br rG sd n l:=⟨_,rfl⟩
 rw [<-hR];have HR:=ak hR;by_cases hl:l.length=32
 ·have HC:=ak (xL hl hb.ok hb.rd);have HE:Hid (R=(nu 32 (rG (bf l)),0,.by sd n)):=ak (by rw [HR.out];exact if_pos hl);obtain ⟨av,cv,rfl,_⟩:=hb.rd;clear hR h hb hl
  go_enter Tryz.func34,Tryz.ntmps34
  go_wp2_with fail;refine HW.out.mono ?_;rintro e w1 ⟨rfl,rfl⟩;go_wp2_with fail;refine HC.out.mono ?_;rintro e w2 ⟨u,rfl,hr,b2⟩;have HD:=ak (Dy HQ.out (HQ.out.1.below b2) (ku.of_below b2 _) hr (fun i _=> aaj (bf l) i) 0);clear hr b2;go_wp2;go_ret2;rw [HE.out];exact ⟨u,rfl,HD.out⟩
 ·have HC:=ak (tY hl hb.rd);have HE:Hid (R=([],11,.by sd n)):=ak (by rw [HR.out];exact if_neg hl);obtain ⟨av,cv,rfl,_⟩:=hb.rd;clear hR h hb hl
  go_enter Tryz.func34,Tryz.ntmps34
  go_wp2_with fail;refine HW.out.mono ?_;rintro e w1 ⟨rfl,rfl⟩;go_wp2_with fail;refine HC.out.mono ?_;rintro e w2 ⟨rfl,b2⟩;have HD:=ak (tZ HQ.out b2 11);clear b2;go_wp2;go_ret2;rw [HE.out];exact ⟨_,rfl,HD.out⟩
end
noncomputable def rR (sd:Nat->Int) (n:Nat) (a b:List Int):UA:=
 if a.length=32 then
  if mulN (sm 256 (jZ sd n) 32) (sm 256 (bf a) 32)=0 then ([],21,.by sd (n+1))
  else (nu (32+(b.length+16)) (lI (sm 256 (jZ sd n) 32) (sm 256 (bf a) 32) b.length (bf b)),0,.by sd (n+1))
 else ([],11,.by sd n)
noncomputable def iG (a c:List Int):List Int × Int:=
 if a.length=32 then
  if c.length<48 then ([],10)
  else if pK (sm 256 (bf a) 32) (bf c)=0 then ([],21)
  else if rT (sm 256 (bf a) 32) (c.length - 48) (bf c)=true then (nu (c.length - 48) (JR (sm 256 (bf a) 32) (bf c)),0) else ([],20)
 else ([],11)
theorem FJ {F:Nat->Prop} {w w':World} {v:Value} {r:List Int} {e:Int} (h:∃u,v=.tuple #[u,.int .i64 e] /\dK F w u r) (hb:Below w.heap.size w w'):∃u,v=.tuple #[u,.int .i64 e] /\dK F w' u r:=by
 obtain ⟨u,e,h⟩:=h;exact ⟨u,e,h.below hb⟩
theorem QN (S P:Int) (n:Nat) (f:Nat->Int) (i:Nat):0<=lI S P n f i/\lI S P n f i<256:=by
 unfold lI lH
 split
 ·exact bE (by decide) _ _
 ·exact wO _ _ _ _ _ _ _
section
variable {B : Nat} {w w' w1 w2 w3 : World} {p q : Nat} {F F' G G' : Nat -> Prop} {sd : Nat -> Int} {n : Nat} {v u v' : Value} {l l' : List Int} {X X' : Su} {S : TS}
theorem FZ (h:sI B w p F (.by sd n)) (hb:dK F w v l) (hb':dK F w v' l') (hl':l'.length<=400):Calls Tryz.prog 22 #[.pointer (some ⟨p,0,none⟩),v,v'] w fun e w'=> ∃u,e=.returned (.tuple #[u,.int .i64 (iG l l').2])/\dK F w' u (iG l l').1/\Below w.heap.size w w':=by
 have HW:=ak (fG h.1.r);have HNF:=ak h.2;obtain ⟨R,hR⟩:∃x,x=iG l l':=⟨_,rfl⟩
 rw [<-hR];have HR:=ak hR;by_cases hl:l.length=32
 ·have hr1:=hb.rd;rw [hl] at hr1;have HK:=ak (qQ hr1);obtain ⟨K,hK⟩:∃K,K=bf l:=⟨_,rfl⟩
  have HBX:Hid (∀w1,Below w.heap.size w w1->Calls Tryz.prog 75 #[.agg (arr .u8 32 K),v'] w1 fun e w'=> ∃u,e=.returned (.tuple #[u,.int .i64 R.2])/\dK F w' u R.1/\Below w1.heap.size w1 w'):=ak fun w1 b1=> by
   rw [hK,Am (fun i hi=> hb.ok.at i (by omega)),HR.out];unfold iG;rw [if_pos hl];have hv:=hb'.rd.below b1;by_cases h48:l'.length<48
   ·rw [if_pos h48];refine (Ag _ v' _ _ w1 hv h48).mono ?_;rintro e w' ⟨rfl,b⟩;exact ⟨_,rfl,dK.nil _ _,b⟩
   ·rw [if_neg h48];refine (ES _ v' (l'.length - 48) l'.length (by omega) _ w1 hv (by omega) (fun i hi=> hb'.ok.at i hi)).mono ?_;rintro e w' ⟨u,er,rfl,⟨r1,r2⟩,b⟩;by_cases hx:pK (sm 256 (bf l) 32) (bf l')=0
    ·rw [if_pos hx];obtain ⟨rfl,rfl⟩:=r1 hx;exact ⟨_,rfl,dK.nil _ _,b⟩
    ·rw [if_neg hx];by_cases ho:rT (sm 256 (bf l) 32) (l'.length - 48) (bf l')=true
     ·rw [if_pos ho];obtain ⟨rfl,hr⟩:=(r2 hx).2 ho;exact ⟨_,rfl,dK.any hr (fun i _=> sS _ _ _ _ i) HNF.out,b⟩
     ·rw [if_neg ho];obtain ⟨rfl,rfl⟩:=(r2 hx).1 (by simpa using ho);exact ⟨_,rfl,dK.nil _ _,b⟩
  rw [<-hK] at HK;obtain ⟨av,cv,rfl,_⟩:=hb.rd;obtain ⟨av',cv',rfl,_⟩:=hb'.rd;clear hR h hb hb' hl hr1 hK HR hl'
  go_enter Tryz.func22,Tryz.ntmps22
  go_wp2_with fail;refine HW.out.mono ?_;rintro e w1 ⟨rfl,rfl⟩;go_wp2_with fail;refine HK.out.mono ?_;rintro e w2 ⟨rfl,b2⟩;have B2:=ak b2;clear b2;go_upto_region 4 with (refine aG rfl 22 _ _ rfl .u8 w2.heap.size 32 (fun _=> 0) K eT rfl rfl (bM rfl (by rfl)) ?_);refine aD (fun w3=> aF .u8 w3 w2.heap.size 32 K/\Below w1.heap.size w1 w3) ⟨(show aF .u8 (w2.alloc (.cells (arr .u8 32 (fun _=> 0)) 22)) w2.heap.size 32 (fun _=> 0) from bM rfl rfl).setRow 32 K,ay (B2.out.alloc B2.out.size _) B2.out.size _⟩ ?_;rintro w3 ⟨h8,b3⟩;have H8:=ak h8;have B3:=ak b3;clear h8 b3;go_wp2_with (refine aQ rfl 22 _ rfl .u8 w2.heap.size 32 K 5 gH eT rfl H8.out ?_);refine (HBX.out w3 B3.out).mono ?_;rintro e w4 ⟨u,rfl,hy,b4⟩;have HY:=ak hy;have B4:=ak (B3.out.trans (b4.mono B3.out.size));obtain ⟨au,cu,rfl⟩:=hy.slice;clear hy b4;go_wp2;go_ret2;exact ⟨_,rfl,HY.out,B4.out⟩
 ·have HK:=ak (uf hb.rd hl);have HE:Hid (R=([],11)):=ak (by rw [HR.out];exact if_neg hl);obtain ⟨av,cv,rfl,_⟩:=hb.rd;obtain ⟨av',cv',rfl,_⟩:=hb'.rd;clear hR h hb hb' hl
  go_enter Tryz.func22,Tryz.ntmps22
  go_wp2_with fail;refine HW.out.mono ?_;rintro e w1 ⟨rfl,rfl⟩;go_wp2_with fail;refine HK.out.mono ?_;rintro e w2 ⟨rfl,b2⟩;have B2:=ak b2;clear b2;go_upto_region 4 with (refine aG rfl 22 _ _ rfl .u8 w2.heap.size 32 (fun _=> 0) (fun _=> 0) eT rfl rfl (bM rfl (by rfl)) ?_);refine aD (fun w3=> Below w1.heap.size w1 w3) (ay (B2.out.alloc B2.out.size _) B2.out.size _) ?_;rintro w3 b3;have B3:=ak b3;clear b3;go_wp2;go_ret2;rw [HE.out];exact ⟨_,rfl,dK.nil _ _,B3.out⟩
theorem Ob (h:sI B w p F (.by sd n)) (hb:dK F w v l) (hb':dK F w v' l') (hn:n<=900) (hl':l'.length<=300):Calls Tryz.prog 13 #[.pointer (some ⟨p,0,none⟩),v,v'] w fun e w'=> ∃u,e=.returned (.tuple #[u,.int .i64 (rR sd n l l').2.1])/\QH B w p F u (rR sd n l l') w':=by
 have HQ:=ak h;have HW:=ak (fG h.1.r);have HNF:=ak h.2;obtain ⟨R,hR⟩:∃x,x=rR sd n l l':=⟨_,rfl⟩
 rw [<-hR];have HR:=ak hR;by_cases hl:l.length=32
 ·have hr1:=hb.rd;rw [hl] at hr1;have HK:=ak (qQ hr1);obtain ⟨K,hK⟩:∃K,K=bf l:=⟨_,rfl⟩
  obtain ⟨D,hD⟩:∃D,D=jZ sd n:=⟨_,rfl⟩
  have HR2:Hid (R.2.2=.by sd (n+1)):=ak (by
   rw [HR.out];unfold rR;rw [if_pos hl]
   split<;> rfl)
  have HBX:Hid (∀w1,Rd .u8 w1 v' l'.length (bf l')->Calls Tryz.prog 65 #[.agg (arr .u8 32 D),.agg (arr .u8 32 K),v'] w1 fun e w'=> ∃u,e=.returned (.tuple #[u,.int .i64 R.2.1])/\dK F w' u R.1/\Below w1.heap.size w1 w'):=ak fun w1 hv=> by
   rw [hK,hD,Am (fun i hi=> hb.ok.at i (by omega)),Am (f:=jZ sd n) (fun i _=> EL sd n i),HR.out];unfold rR;rw [if_pos hl];refine (LP _ _ v' _ _ w1 hv hl').mono ?_;rintro e w' ⟨u,er,rfl,⟨r1,r2⟩,b⟩;by_cases hx:mulN (sm 256 (jZ sd n) 32) (sm 256 (bf l) 32)=0
   ·rw [if_pos hx];obtain ⟨rfl,rfl⟩:=r1 hx;exact ⟨_,rfl,dK.nil _ _,b⟩
   ·rw [if_neg hx];obtain ⟨rfl,hr⟩:=r2 hx;exact ⟨_,rfl,dK.any hr (fun i _=> QN _ _ _ _ i) HNF.out,b⟩
  have HDR:=ak (fun w h=> wN (w:=w) (B:=B) (p:=p) (sd:=sd) (n:=n) h (by omega));rw [<-hK] at HK;rw [<-hD] at HDR;have HV:=ak hb'.rd;have HPL:Hid (p<w.heap.size):=ak h.1.lt;obtain ⟨av,cv,rfl,_⟩:=hb.rd;obtain ⟨av2,cv2,rfl,_⟩:=hb'.rd;have aho:Hid (∀w1,Rd .u8 w1 (.slice av2 l'.length cv2) l'.length (bf l')->Calls Tryz.prog 65 #[.agg (arr .u8 32 D),.agg (arr .u8 32 K),.slice av2 l'.length cv2] w1 fun e w'=> ∃x,e=.returned x/\(∃u,x=.tuple #[u,.int .i64 R.2.1] /\dK F w' u R.1)/\Below w1.heap.size w1 w'):=ak fun w1 hv=> (HBX.out w1 hv).mono fun e w' ⟨u,h1,h2,h3⟩=> ⟨_,h1,⟨u,rfl,h2⟩,h3⟩
  obtain ⟨N2,Np⟩:∃N,N=l'.length:=⟨_,rfl⟩
  rw [<-Np] at aho HV ⊢;clear hR h hb hb' hl hr1 hK hD HR hl' hn HBX Np
  go_enter Tryz.func13,Tryz.ntmps13
  go_wp2_with fail;refine HW.out.mono ?_;rintro e w1 ⟨rfl,rfl⟩;go_wp2_with fail;refine HK.out.mono ?_;rintro e w2 ⟨rfl,b2⟩;have B2:=ak b2;clear b2;go_upto_region 4 with (refine aG rfl 22 _ _ rfl .u8 w2.heap.size 32 (fun _=> 0) K eT rfl rfl (bM rfl (by rfl)) ?_);refine aD (fun w3=> aF .u8 w3 w2.heap.size 32 K/\Below w1.heap.size w1 w3) ⟨(show aF .u8 (w2.alloc (.cells (arr .u8 32 (fun _=> 0)) 22)) w2.heap.size 32 (fun _=> 0) from bM rfl rfl).setRow 32 K,ay (B2.out.alloc B2.out.size _) B2.out.size _⟩ ?_;rintro w3 ⟨h8,b3⟩;have H8:=ak h8;have B3:=ak b3;have ZT:Hid (p<w2.heap.size):=ak (pJ HPL.out B2.out.size);clear h8 b3;obtain ⟨x8,hx8⟩:∃x,x=w2.heap.size:=⟨_,rfl⟩
  rw [<-hx8] at H8 ZT ⊢;clear hx8;go_upto_region 6 with (fail);have HQ3:Hid (AP B w3 p sd n):=ak (HQ.out.1.below B3.out);have HNP:Hid (¬ (x8=p\/False)):=ak fun h=> h.elim (fun e=> by have:=ZT.out;omega) id;have YQ:=ak (HV.out.below B3.out)
  refine DX (n:=37) 1 (by kernel_rfl) (by kernel_rfl) (by kernel_rfl) (by decide) (by kernel_rfl) rfl
   (fun ii vv=> (match ii with | 0=> vv=.pointer (some ⟨p,0,none⟩) | 1=> vv=.agg (arr .u8 32 (D)) | 2=> vv=.agg (arr .u8 32 (K)) | 3=> vv=.slice av2 N2 cv2 | 6 | 8=> vv=.int .i64 (R.2.1) | _=> True)) (fun ii vv ww=> (ii=4->∃u,vv=.tuple #[u,.int .i64 R.2.1] /\dK F ww u R.1)/\(ii=5->dK F ww vv R.1)/\(ii=7->dK F ww vv R.1))
   (fun i v w w' h hE=> ⟨fun e=> FJ (h.1 e) hE,fun e=> dK.below (h.2.1 e) hE,fun e=> dK.below (h.2.2 e) hE⟩)
   (fun ww=> AP B ww p sd (n+1)/\ku p (fun _=> False) w3 ww) (fun _ _ h hb=> ⟨h.1.below hb,h.2.trans (ku.of_below hb (fun _=> False)) fun _ h=> .inl h⟩) ?_ ?_ ?_
  ·refine cO ?_;refine ⟨?_,(fun h=> absurd rfl h),?_,?_,?_,?_,?_,?_,?_,trivial⟩
   ·intro _ a w2 hB' hP hO hF hd;have hB:=hB' (by kernel_rfl);exact aH <| dJ rfl ⟨(hF.same 0 rfl),aJ,aJ,aJ⟩
   ·intro _ a w2 hB' hP hO hF hd;rw [if_pos (bJ rfl)];have nD:aF .u8 w2 x8 32 K:=hO.elim (fun hB=> H8.out.kept hB) (fun hp=> H8.out.kV hp.2.kV HNP.out);exact aP (DL rfl gH eT (hF.same 8 rfl) nD) ⟨rfl,aJ,aJ,aJ⟩
   ·intro _ a w2 hB' hP hO hF hd;exact aH <| dJ rfl ⟨(hF.same 2 rfl),aJ,aJ,aJ⟩
   ·intro _ a w2 hB' hP hO hF hd;refine aH <| aC _ _ _ rfl Tryz.call65 _ (sH ((hd 1 _ rfl rfl).1) ((hd 2 _ rfl rfl).1) ((hd 3 _ rfl rfl).1)) (by simp) ((aho.out w2 (YQ.out.xD (hP (by kernel_rfl)).2 fun _ _ _=> id)).mono ?_);rintro e w3 ⟨u,rfl,hr,hb⟩;exact ⟨u,rfl,⟨trivial,fun _=> hr,aJ,aJ⟩,hb⟩
   ·intro _ a w2 hB' hP hO hF hd;rw [if_pos (bJ rfl)];obtain ⟨u_,wh,Cv⟩:=(((hd 4 _ rfl rfl).2 (by kernel_rfl)).1 rfl)
    exact aP (bg rfl wh rfl) ⟨trivial,aJ,fun _=> (Cv),aJ⟩
   ·intro _ a w2 hB' hP hO hF hd;rw [if_pos (bJ rfl)];obtain ⟨u_,wh,Cv⟩:=(((hd 4 _ rfl rfl).2 (by kernel_rfl)).1 rfl)
    exact aP (bg rfl wh rfl) ⟨rfl,aJ,aJ,aJ⟩
   ·intro _ a w2 hB' hP hO hF hd;exact aH <| mH rfl ⟨trivial,aJ,aJ,fun _=> (((hd 5 _ rfl rfl).2 (by kernel_rfl)).2.1 rfl)⟩
   ·intro _ a w2 hB' hP hO hF hd;exact aH <| mH rfl ⟨((hd 6 _ rfl rfl).1),aJ,aJ,aJ⟩
  ·intro o ho a w2 hB hF hd;obtain rfl:=fO ho;refine ⟨by rw [bJ rfl],?_⟩;refine nW 66 #[.tmp 22] _ rfl Tryz.call66 _ (args1 ((hd 0 _ rfl rfl).1)) (by simp) ((HDR.out w2 (HQ3.out.below hB)).mono ?_);rintro e w4 ⟨rfl,h4,c4⟩;exact ⟨_,rfl,⟨rfl,aJ,aJ,aJ⟩,h4,(ku.of_below hB (fun _=> False)).trans c4 fun _ h=> .inl h⟩
  ·intro a w4 hP hF hS;obtain ⟨x26,Lc⟩:∃x,x=a.tmps.getD 26 undef:=⟨_,rfl⟩
   have P26:∃u,x26=.tuple #[u,.int .i64 R.2.1] /\dK F w4 u R.1:=by rw [Lc];exact ((hS 4 _ rfl).2 (by kernel_rfl)).1 rfl
   obtain ⟨x27,hx27⟩:∃x,x=a.tmps.getD 27 undef:=⟨_,rfl⟩
   have P27:dK F w4 x27 R.1:=by rw [hx27];exact ((hS 5 _ rfl).2 (by kernel_rfl)).2.1 rfl
   obtain ⟨x6,hx6⟩:∃x,x=a.tmps.getD 6 undef:=⟨_,rfl⟩
   have P6:dK F w4 x6 R.1:=by rw [hx6];exact ((hS 7 _ rfl).2 (by kernel_rfl)).2.2 rfl
   have ha:=aI rfl rfl hF [_,_,_,_,x26,x27,_,x6,_] rfl ⟨(hS 0 _ rfl).1,(hS 1 _ rfl).1,(hS 2 _ rfl).1,(hS 3 _ rfl).1,Lc.symm,hx27.symm,(hS 6 _ rfl).1,hx6.symm,(hS 8 _ rfl).1,trivial⟩;simp only [puts,Act.put,dQ,dR,dS] at ha;subst ha;clear Lc hx27 hx6;clear hS hF;have HY:=ak P6;have HD:Hid (QH B w1 p F x6 R w4):=ak (by
    refine ⟨F,?_,HY.out,?_,fun b hb=> .inl hb⟩
    ·rw [HR2.out];exact ⟨hP.1,HNF.out⟩
    ·refine (ku.of_below B3.out F).trans ⟨hP.2.kV.mono fun b _ hb=> hb.imp id fun h=> h.elim,fun b hb _=> hP.2.u8 b hb id⟩ fun b h=> .inl h)
   obtain ⟨a6,c6,e6⟩:=HY.out.slice;subst e6;clear P6 P26 P27 hP;go_wp2;go_ret2;exact ⟨_,rfl,HD.out⟩
 ·have HK:=ak (uf hb.rd hl);have HE:Hid (R=([],11,.by sd n)):=ak (by rw [HR.out];exact if_neg hl);obtain ⟨av,cv,rfl,_⟩:=hb.rd;obtain ⟨av',cv',rfl,_⟩:=hb'.rd;clear hR h hb hb' hl
  go_enter Tryz.func13,Tryz.ntmps13
  go_wp2_with fail;refine HW.out.mono ?_;rintro e w1 ⟨rfl,rfl⟩;go_wp2_with fail;refine HK.out.mono ?_;rintro e w2 ⟨rfl,b2⟩;have B2:=ak b2;clear b2;go_upto_region 4 with (refine aG rfl 22 _ _ rfl .u8 w2.heap.size 32 (fun _=> 0) (fun _=> 0) eT rfl rfl (bM rfl (by rfl)) ?_);refine aD (fun w3=> Below w1.heap.size w1 w3) (ay (B2.out.alloc B2.out.size _) B2.out.size _) ?_;rintro w3 b3;have B3:=ak b3;clear b3;go_wp2;go_ret2;rw [HE.out];exact ⟨_,rfl,tZ HQ.out B3.out 11⟩
end
end Go.Proofs.YtpcjekgfnfjbpaaGreat
namespace Go.Proofs.YtpcjekgfnfjbpaaGreat
open Go.RowKit Go.aZ Go.ChangeShapes Go.Maps
noncomputable def Su.pub:Su->List Int->UA
 | .by sd n,l=> Br oP sd n l
 | .tm S,l=> ((gW 2 S l).1,(gW 2 S l).2.1,.tm (gW 2 S l).2.2)
noncomputable def Su.ver:Su->List Int->UA
 | .by sd n,l=> Br rG sd n l
 | .tm S,l=> ((gW 3 S l).1,(gW 3 S l).2.1,.tm (gW 3 S l).2.2)
noncomputable def Su.AO:Su->List Int->List Int->List Int × Int
 | .by _ _,a,c=> iG a c
 | .tm S,a,c=> cB S a c
noncomputable def Su.yJ:Su->List Int->List Int->UA
 | .by sd n,a,b=> rR sd n a b
 | .tm S,a,b=> ((mR 4 S a b).1,(mR 4 S a b).2.1,.tm (mR 4 S a b).2.2)
section
variable {B : Nat} {w w' : World} {p : Nat} {F : Nat -> Prop} {v u v' : Value} {l l' : List Int} {X : Su}
theorem Dw (h:sI B w p F X) (hb:dK F w v l) (hn:X.size<=900):Calls Tryz.prog 33 #[.pointer (some ⟨p,0,none⟩),v] w fun e w'=> ∃u,e=.returned (.tuple #[u,.int .i64 (X.pub l).2.1])/\QH B w p F u (X.pub l) w':=by
 cases X with
 | «by» sd n=> exact Ga h hb
 | tm S=> exact (wM h hb hn).mono fun e w' ⟨u,h1,h2⟩=> ⟨u,h1,h2.su⟩
theorem yV (h:sI B w p F X) (hb:dK F w v l) (hn:X.size<=900):Calls Tryz.prog 34 #[.pointer (some ⟨p,0,none⟩),v] w fun e w'=> ∃u,e=.returned (.tuple #[u,.int .i64 (X.ver l).2.1])/\QH B w p F u (X.ver l) w':=by
 cases X with
 | «by» sd n=> exact Ba h hb
 | tm S=> exact (rU h hb hn).mono fun e w' ⟨u,h1,h2⟩=> ⟨u,h1,h2.su⟩
theorem Dv (h:sI B w p F X) (hb:dK F w v l) (hb':dK F w v' l') (hl':l'.length<=400) (hn:X.size<=900):Calls Tryz.prog 22 #[.pointer (some ⟨p,0,none⟩),v,v'] w fun e w'=> ∃u,e=.returned (.tuple #[u,.int .i64 (X.AO l l').2])/\dK F w' u (X.AO l l').1/\Below w.heap.size w w':=by
 cases X with
 | «by» sd n=> exact FZ h hb hb' hl'
 | tm S=> exact wK h hb hb' (gQ hn (by decide))
theorem Ka (h:sI B w p F X) (hb:dK F w v l) (hb':dK F w v' l') (hl':l'.length<=300) (hn:X.size<=900):Calls Tryz.prog 13 #[.pointer (some ⟨p,0,none⟩),v,v'] w fun e w'=> ∃u,e=.returned (.tuple #[u,.int .i64 (X.yJ l l').2.1])/\QH B w p F u (X.yJ l l') w':=by
 cases X with
 | «by» sd n=> exact Ob h hb hb' hn hl'
 | tm S=> exact (BZ h hb hb' hn).mono fun e w' ⟨u,h1,h2⟩=> ⟨u,h1,h2.su⟩
end
theorem Xl (a:List Int):sm 256 (bf (nu 32 (oP (bf a)))) 32=mulN (sm 256 (bf a) 32) 9:=by
 rw [iA (fun i hi=> Ak hi)];unfold oP;rw [nX (by decide),Ju (yx _ 9).1 (yx _ 9).2]
theorem EP (sd:Nat->Int) (m:Nat) {a b:List Int} (ha:a.length=32) (hb:okB b):∃c,rR sd m (nu 32 (oP (bf a))) b=(c,0,.by sd (m+1))/\iG a c=(b,0)/\c.length=b.length+48/\okB c:=by
 obtain ⟨S,hS⟩:∃S,S=sm 256 (jZ sd m) 32:=⟨_,rfl⟩
 obtain ⟨T,hT⟩:∃T,T=sm 256 (bf a) 32:=⟨_,rfl⟩
 obtain ⟨n,hn⟩:∃n,n=b.length:=⟨_,rfl⟩
 have hne:mulN S (mulN T 9)≠0:=Oi S T;obtain ⟨c,hc⟩:∃c,c=nu (32+(n+16)) (lI S (mulN T 9) n (bf b)):=⟨_,rfl⟩
 refine ⟨c,?_,?_,by rw [hc,kF];omega,hc▸yw fun i _=> WC _ _ _ _ i⟩
 ·unfold rR;rw [if_pos (kF _ _),Xl,←hS,←hT,←hn,if_neg hne,←hc]
 ·have hci:∀i,i<32+(n+16)->bf c i=lI S (mulN T 9) n (bf b) i:=fun i hi=> by rw [hc];exact Ak hi
  have e1:tT (bf c)=mulN S 9:=by
   rw [<-NV S (mulN T 9) n (bf b)];exact iA fun i hi=> hci i (by omega)
  have eX:pK T (bf c)=mulN S (mulN T 9):=by unfold pK;rw [e1,abh]
  have eK:JQ T (bf c)=qJ (mulN S (mulN T 9)) (mulN S 9) (mulN T 9):=by unfold JQ;rw [eX,e1]
  have hhi:∀i,i<n+16->bf c (32+i)=jL (qJ (mulN S (mulN T 9)) (mulN S 9) (mulN T 9)) zG 0 zG n (bf b) i:=fun i hi=> (hci (32+i) (by omega)).trans (congrFun (WA S (mulN T 9) n (bf b)) i);have eO:rT T n (bf c)=true:=by
   unfold rT;rw [eK,GX hhi];exact KH
  have eH:nu n (JR T (bf c))=b:=by
   conv=> rhs;rw [<-Tn b]
   rw [<-hn];refine OY fun i hi=> ?_;unfold JR;rw [eK];have:=OI (key:=qJ (mulN S (mulN T 9)) (mulN S 9) (mulN T 9)) (nonce:=zG) (nb:=0) (fb:=zG) (n:=n) (f:=bf b) (fun i hi=> hb.at i (by omega)) i hi;rw [<-this];show xo _ (bf c (32+i))=xo _ (jL _ _ _ _ _ _ i);rw [hhi i (by omega)]
  unfold iG;rw [if_pos ha,hc,kF,←hc,if_neg (by omega),←hT,if_neg (by rw [eX];exact hne),show 32+(n+16) - 48=n by omega,if_pos eO,eH]
section
variable {B : Nat} {w w' : World} {p : Nat} {F : Nat -> Prop} {v u : Value} {l l' : List Int} {X : Su}
theorem Ck (g:(Nat->Int)->Nat->Int) (sd:Nat->Int) (n:Nat) (l:List Int):(Br g sd n l).2.2.size=n:=by unfold Br;split<;> rfl
theorem Su.Sb (X:Su) (l:List Int):(X.pub l).2.2.size<=X.size+1:=by
 cases X with
 | «by» sd n=> exact gQ (Nat.le_of_eq (Ck _ sd n l)) (Nat.le_succ _)
 | tm S=> exact uH 2 S l
theorem Su.QO (X:Su) (l:List Int):(X.ver l).2.2.size<=X.size+1:=by
 cases X with
 | «by» sd n=> exact gQ (Nat.le_of_eq (Ck _ sd n l)) (Nat.le_succ _)
 | tm S=> exact uH 3 S l
theorem Su.PE (X:Su) (s:Int):(X.draw s).2.2.size<=X.size+1:=by
 cases X with
 | «by» sd n=>
  show (if isSort s=true then (nu 32 (jZ sd n),(0:Int),Su.by sd (n+1)) else ([],2,.by sd n)).2.2.size<=n+1
  split
  ·exact bA _
  ·exact Nat.le_succ _
 | tm S=> exact CK S s
theorem Su.yI (X:Su) (a b:List Int):(X.yJ a b).2.2.size<=X.size+1:=by
 cases X with
 | «by» sd n=>
  show (rR sd n a b).2.2.size<=n+1;unfold rR
  split
  ·split<;> exact bA _
  ·exact Nat.le_succ _
 | tm S=> exact FH 4 S a b
noncomputable def bP (B:Nat):mP B where
 σ:=Su
 M:=fun w p F X=> sI B w p F X
 sz:=Su.size
 pub:=Su.pub
 ver:=Su.ver
 AO:=Su.AO
 below:=fun h hb=> sI.below h hb
 lt:=fun h hb=> sI.lt h hb
 hi:=fun h hb=> sI.hi h hb
 keep:=fun h hc hp hF=> sI.keep h hc hp hF
 szP:=Su.Sb
 szV:=Su.QO
 Yy:=fun h hb hl=> Dw h hb hl
 Yx:=fun h hb hl=> yV h hb hl
 acW:=fun h hb hb' hl' hl=> Dv h hb hb' hl' hl
 jY:=Su.draw
 yJ:=Su.yJ
 szD:=Su.PE
 szW:=Su.yI
 acX:=fun s h hl=> Kc h s hl
 acV:=fun h hb hb' hl' hl=> Ka h hb hb' hl' hl
end
noncomputable def tC (sd:Nat->Int) (i:Nat):List Int:=nu 32 (jZ sd i)
noncomputable def Xn (sd:Nat->Int) (i:Nat):nT:=⟨pF i,nu 32 (oP (bf (tC sd i))),nu 32 (rG (bf (tC sd i)))⟩
noncomputable def roB (sd:Nat->Int):Nat->List nT
 | 0=> []
 | n+1=> roB sd n++ [Xn sd n]
noncomputable def ssB (sd:Nat->Int):Nat->List (List Int)
 | 0=> []
 | n+1=> ssB sd n++ [tC sd n]
section
variable (B : Nat) (sd : Nat -> Int)
theorem jM (i:Nat):(tC sd i).length=32:=kF _ _
theorem Vs (n:Nat):(bP B).jY (.by sd n) 1=(tC sd n,0,.by sd (n+1)):=by
 show (if isSort 1=true then (nu 32 (jZ sd n),(0:Int),Su.by sd (n+1)) else ([],2,.by sd n))= _;rw [if_pos (by decide)]
 rfl
theorem ER (n:Nat) {l:List Int} (h:l.length=32):(bP B).pub (.by sd n) l=(nu 32 (oP (bf l)),0,.by sd n):=if_pos h
theorem LM (n:Nat) {l:List Int} (h:l.length=32):(bP B).ver (.by sd n) l=(nu 32 (rG (bf l)),0,.by sd n):=if_pos h
theorem Ra:∀n,(bP B).usr (.by sd 0) n=(.by sd n,roB sd n,ssB sd n)
 | 0=> rfl
 | n+1=> by
  have h0:=Ra n;have e1:(bP B).jY ((bP B).usr (.by sd 0) n).1 1=(tC sd n,0,.by sd (n+1)):=by rw [h0];exact Vs B sd n
  have e2:=ER B sd (n+1) (jM sd n);have e3:=LM B sd (n+1) (jM sd n);show (((bP B).ver ((bP B).pub ((bP B).jY ((bP B).usr (.by sd 0) n).1 1).2.2 ((bP B).jY ((bP B).usr (.by sd 0) n).1 1).1).2.2 ((bP B).jY ((bP B).usr (.by sd 0) n).1 1).1).2.2,_,_)= _;rw [e1];show (((bP B).ver ((bP B).pub (.by sd (n+1)) (tC sd n)).2.2 (tC sd n)).2.2,((bP B).usr (.by sd 0) n).2.1++ [⟨pF n,((bP B).pub (.by sd (n+1)) (tC sd n)).1,((bP B).ver ((bP B).pub (.by sd (n+1)) (tC sd n)).2.2 (tC sd n)).1⟩],((bP B).usr (.by sd 0) n).2.2++ [tC sd n])= _;rw [e2];show (((bP B).ver (.by sd (n+1)) (tC sd n)).2.2,((bP B).usr (.by sd 0) n).2.1++ [⟨pF n,(Xn sd n).pb,((bP B).ver (.by sd (n+1)) (tC sd n)).1⟩],((bP B).usr (.by sd 0) n).2.2++ [tC sd n])= _;rw [e3,h0]
  rfl
theorem QZ:∀n,n<=5->(bP B).usr (.tm ⟨[], []⟩) n=(.tm (pQ n),vH n,MB n)
 | 0,_=> rfl
 | n+1,hn=> by
  have h0:=QZ n (by omega);obtain ⟨A,C,h1,h2,h3⟩:=pU n (by omega);have e1:(bP B).jY ((bP B).usr (.tm ⟨[], []⟩) n).1 1=(fD n,0,.tm A):=by
   rw [h0];show ((jE (pQ n) 1).1,(jE (pQ n) 1).2.1,Su.tm (jE (pQ n) 1).2.2)= _;rw [h1]
   rfl
  have e2:(bP B).pub (.tm A) (fD n)=((psT n).pb,0,.tm C):=by
   show ((gW 2 A (fD n)).1,(gW 2 A (fD n)).2.1,Su.tm (gW 2 A (fD n)).2.2)= _;rw [h2]
   rfl
  have e3:(bP B).ver (.tm C) (fD n)=((psT n).vf,0,.tm (pQ (n+1))):=by
   show ((gW 3 C (fD n)).1,(gW 3 C (fD n)).2.1,Su.tm (gW 3 C (fD n)).2.2)= _;rw [h3]
   rfl
  show (((bP B).ver ((bP B).pub ((bP B).jY ((bP B).usr (.tm ⟨[], []⟩) n).1 1).2.2 ((bP B).jY ((bP B).usr (.tm ⟨[], []⟩) n).1 1).1).2.2 ((bP B).jY ((bP B).usr (.tm ⟨[], []⟩) n).1 1).1).2.2,_,_)= _;rw [e1];show (((bP B).ver ((bP B).pub (.tm A) (fD n)).2.2 (fD n)).2.2,((bP B).usr (.tm ⟨[], []⟩) n).2.1++ [⟨pF n,((bP B).pub (.tm A) (fD n)).1,((bP B).ver ((bP B).pub (.tm A) (fD n)).2.2 (fD n)).1⟩],((bP B).usr (.tm ⟨[], []⟩) n).2.2++ [fD n])= _;rw [e2];show (((bP B).ver (.tm C) (fD n)).2.2,((bP B).usr (.tm ⟨[], []⟩) n).2.1++ [⟨pF n,(psT n).pb,((bP B).ver (.tm C) (fD n)).1⟩],((bP B).usr (.tm ⟨[], []⟩) n).2.2++ [fD n])= _;rw [e3,h0]
  rfl
end
section
variable (B : Nat) (sd : Nat -> Int)
theorem WJ:(bP B).FE (.by sd 0):=fun n _=> by
 have h0:=Ra B sd n;have e1:(bP B).jY ((bP B).usr (.by sd 0) n).1 1=(tC sd n,0,.by sd (n+1)):=by rw [h0];exact Vs B sd n
 rw [e1];refine ⟨rfl,?_,?_⟩
 ·show ((bP B).pub (.by sd (n+1)) (tC sd n)).2.1=0;rw [ER B sd (n+1) (jM sd n)]
 ·show ((bP B).ver ((bP B).pub (.by sd (n+1)) (tC sd n)).2.2 (tC sd n)).2.1=0;rw [ER B sd (n+1) (jM sd n)];show ((bP B).ver (.by sd (n+1)) (tC sd n)).2.1=0;rw [LM B sd (n+1) (jM sd n)]
theorem WI:(bP B).FE (.tm ⟨[], []⟩):=fun n hn=> by
 have h0:=QZ B n (by omega);obtain ⟨A,C,h1,h2,h3⟩:=pU n hn;have e1:(bP B).jY ((bP B).usr (.tm ⟨[], []⟩) n).1 1=(fD n,0,.tm A):=by
  rw [h0];show ((jE (pQ n) 1).1,(jE (pQ n) 1).2.1,Su.tm (jE (pQ n) 1).2.2)= _;rw [h1]
  rfl
 have e2:(bP B).pub (.tm A) (fD n)=((psT n).pb,0,.tm C):=by
  show ((gW 2 A (fD n)).1,(gW 2 A (fD n)).2.1,Su.tm (gW 2 A (fD n)).2.2)= _;rw [h2]
  rfl
 have e3:(bP B).ver (.tm C) (fD n)=((psT n).vf,0,.tm (pQ (n+1))):=by
  show ((gW 3 C (fD n)).1,(gW 3 C (fD n)).2.1,Su.tm (gW 3 C (fD n)).2.2)= _;rw [h3]
  rfl
 rw [e1];refine ⟨rfl,?_,?_⟩
 ·show ((bP B).pub (.tm A) (fD n)).2.1=0;rw [e2]
 ·show ((bP B).ver ((bP B).pub (.tm A) (fD n)).2.2 (fD n)).2.1=0;rw [e2];show ((bP B).ver (.tm C) (fD n)).2.1=0;rw [e3]
end
section
variable {B : Nat} {S : TS} {P : nT} {s b x : List Int} {sd : Nat -> Int}
theorem UJ (B:Nat) (X:Su) (a b:List Int):(bP B).yJ X a b=Su.yJ X a b:=rfl
theorem Mw (B:Nat) (S:TS) (P:nT) (s b:List Int):(bP B).take (.tm S) P s b=(((cZ B).take S P s b).1,((cZ B).take S P s b).2.1,.tm ((cZ B).take S P s b).2.2):=by
 have e1:(bP B).take (.tm S) P s b=if (cB S s b).2=0 then if ((cZ B).is S P (cB S s b).1).1=true then ((cB S s b).1,0,Su.tm ((cZ B).is S P (cB S s b).1).2) else ([],44,Su.tm ((cZ B).is S P (cB S s b).1).2) else ([],(cB S s b).2,Su.tm S):=rfl
 have e2:(cZ B).take S P s b=if (cB S s b).2=0 then if ((cZ B).is S P (cB S s b).1).1=true then ((cB S s b).1,0,((cZ B).is S P (cB S s b).1).2) else ([],44,((cZ B).is S P (cB S s b).1).2) else ([],(cB S s b).2,S):=rfl
 rw [e1,e2];by_cases h0:(cB S s b).2=0
 ·rw [if_pos h0,if_pos h0];by_cases h1:((cZ B).is S P (cB S s b).1).1=true
  ·rw [if_pos h1,if_pos h1];rfl
  ·rw [if_neg h1,if_neg h1];rfl
 ·rw [if_neg h0,if_neg h0];rfl
theorem WQ (B:Nat) {i j:Nat} (h:QB S) (hl:S.l.length<=800) (hi:i<5) (hj:j<5) (hu:cB S s b=(fD j,0)):∃S2:TS,(cZ B).take S (psT i) s b=(if i=j then (fD j,0,S2) else ([],44,S2))/\QB S2/\S.l <+:S2.l/\S2.l.length<=S.l.length+2:=by
 have ht:=h.lt hj;obtain ⟨g1,g2,g3,g4⟩:=aiP B h hl hi ht;have e2:(cZ B).take S (psT i) s b=if (cB S s b).2=0 then if ((cZ B).is S (psT i) (cB S s b).1).1=true then ((cB S s b).1,0,((cZ B).is S (psT i) (cB S s b).1).2) else ([],44,((cZ B).is S (psT i) (cB S s b).1).2) else ([],(cB S s b).2,S):=rfl
 refine ⟨((cZ B).is S (psT i) (fD j)).2,?_,⟨g3,h.pre.trans g2.pre,gQ g4 (by omega)⟩,g2.pre,g4⟩;rw [e2,hu]
 dsimp only
 rw [if_pos rfl,show ((cZ B).is S (psT i) (fD j)).1=decide (i=j) from g1.trans (decide_eq_decide.2 ⟨fun e=> by have:=yP (by omega) (by omega) e;omega,fun e=> by rw [e];rfl⟩)];by_cases e:i=j
 ·rw [if_pos e,if_pos (by simpa using e)];rfl
 ·rw [if_neg e,if_neg (by simpa using e)];rfl
theorem Rf {k a c n:Nat} (hk:S.l[k]? =some (4,((3 * c+1:Nat):Int),((3 * a:Nat):Int))) (h:QB S) (hl:S.l.length<=800) (hc:c<5) (hn:n<5):cB S (fD n) (dO (k:Int))=if n=c then (fD a,0) else ([],20):=by
 have lk:=(List.getElem?_eq_some_iff.1 hk).1;have e1:jV S (fD n)=some (3 * n):=lX (h.lt hn) (by omega);have e2:jV S (dO (k:Int))=some k:=lX lk (by omega);have e3:JG S k=4:=by unfold JG;rw [Dq hk]
 unfold cB;rw [e1,e2];simp only [e3,Dq hk,zO (h.at1 hc)];by_cases e:n=c
 ·subst e;rw [if_pos ⟨trivial,rfl⟩,if_pos rfl]
  rfl
 ·rw [if_neg (fun h=> e (by have:=h.2;omega)),if_neg e]
theorem WB {a c:Nat} (h:QB S) (hl:S.l.length<=800) (ha:a<5) (hc:c<5):∃(k:Nat) (S1:TS),mR 4 S (rpT c) (fD a)=(dO (k:Int),0,S1)/\QB S1/\S1.l[k]? =some (4,((3 * c+1:Nat):Int),((3 * a:Nat):Int))/\S1.l.length<=S.l.length+1:=by
 have h1:=h.at1 hc;have l1:=(List.getElem?_eq_some_iff.1 h1).1;have l2:=h.lt ha;have hk:JG S (3 * c+1)=2:=by unfold JG;rw [Dq h1]
 obtain ⟨k,p1,p2,p3⟩:=DY h.ok (SV (k:=4) (.inl ⟨rfl,hk⟩) l1 l2);have hl2:=(uy S (4,((3 * c+1:Nat):Int),((3 * a:Nat):Int))).1;refine ⟨k,_,?_,⟨h.ok.put _,h.pre.trans (vJ _).1,gQ hl2 (by omega)⟩,p2,hl2⟩;unfold mR rpT fD psT;rw [lX l1 (by omega),lX l2 (by omega)];simp only;rw [if_neg (fun h=> h.2 hk),p1]
theorem aaA (B:Nat) (m:Nat) (hx:x.length=32) (hu:iG s b=(x,0)):(bP B).take (.by sd m) P s b=if nu 32 (oP (bf x))=P.pb/\nu 32 (rG (bf x))=P.vf then (x,0,.by sd m) else ([],44,.by sd m):=by
 have e0:(bP B).take (.by sd m) P s b=if (iG s b).2=0 then if ((bP B).is (.by sd m) P (iG s b).1).1=true then ((iG s b).1,0,((bP B).is (.by sd m) P (iG s b).1).2) else ([],44,((bP B).is (.by sd m) P (iG s b).1).2) else ([],(iG s b).2,.by sd m):=rfl
 have e1:(bP B).is (.by sd m) P x=(decide (nu 32 (oP (bf x))=P.pb/\nu 32 (rG (bf x))=P.vf),.by sd m):=by
  unfold Eng.is;rw [ER B sd m hx]
  dsimp only
  rw [LM B sd m hx]
  dsimp only
  simp only [true_and]
 rw [e0,hu]
 dsimp only
 rw [if_pos rfl,e1]
 dsimp only
 by_cases e:nu 32 (oP (bf x))=P.pb/\nu 32 (rG (bf x))=P.vf
 ·rw [if_pos e,if_pos (decide_eq_true e)]
 ·rw [if_neg e,if_neg (by rw [decide_eq_false e];decide)]
structure adi (B:Nat) (bw:Bool) (X:Su) (P:Nat->nT) (sc:Nat->List Int) (a c d:Nat) (b:List Int) (X1:Su) (x:List Int) (f:Int) (X2:Su) (g:Int):Prop where
 wr:(bP B).yJ X (P c).pb (sc a)=(b,0,X1)
 bl:b.length<=400
 tk:(bP B).take X1 (P d) (sc c) b=(x,f,X2)
 no:d≠a->f=44/\x= [] \/f=0/\bw=true/\(P d).pb=(P a).pb
 ye:d=a->f=0/\x=sc a
 t2:((bP B).take X2 (P a) (sc ((c+1) % 5)) b).2.1=g
 ng:bw=true\/g=20
theorem aaz (B:Nat) (bw:Bool) (sd:Nat->Int) {a c d:Nat} (ha:a<5) (hc:c<5) (hd:d<5):∃(X:Su) (ro:List nT) (ss:List (List Int)),(bP B).usr (Su.new bw sd) 5=(X,ro,ss)/\(bP B).FE (Su.new bw sd)/\X.size<=15/\ro.length=5/\ss.length=5/\∃(P:Nat->nT) (sc:Nat->List Int),(∀i,i<5->ro[i]? =some (P i)/\ss[i]? =some (sc i)/\(sc i).length<=100)/\∃b X1 x f X2 g,adi B bw X P sc a c d b X1 x f X2 g:=by
 cases bw with
 | true=>
  refine ⟨.by sd 5,roB sd 5,ssB sd 5,Ra B sd 5,WJ B sd,(show 5<=15 by decide),rfl,rfl,Xn sd,tC sd,fun i hi=> ?_,?_⟩
  ·rcases (by omega:i=0\/i=1\/i=2\/i=3\/i=4) with rfl | rfl | rfl | rfl | rfl<;> exact ⟨rfl,rfl,by rw [jM];omega⟩
  ·obtain ⟨b,h1,h2,h3,h4⟩:=EP sd 5 (jM sd c) (yw fun i _=> EL sd a i:okB (tC sd a));have hw:Su.yJ (.by sd 5) (Xn sd c).pb (tC sd a)=(b,0,.by sd 6):=h1;have hw2:(bP B).yJ (.by sd 5) (Xn sd c).pb (tC sd a)=(b,0,.by sd 6):=(UJ B (.by sd 5) (Xn sd c).pb (tC sd a)).trans hw;have e2:=aaA (sd:=sd) (P:=Xn sd d) B 6 (jM sd a) h2;by_cases e:d=a
   ·subst e;have e3:=e2.trans (if_pos ⟨rfl,rfl⟩);exact ⟨b,.by sd 6,_,_,_,_,hw2,gQ (Nat.le_of_eq h3) (by show (tC sd _).length+48<=400;rw [jM];omega),e3,fun h=> absurd rfl h,fun _=> ⟨rfl,rfl⟩,rfl,.inl rfl⟩
   ·by_cases e':nu 32 (oP (bf (tC sd a)))=(Xn sd d).pb/\nu 32 (rG (bf (tC sd a)))=(Xn sd d).vf
    ·exact ⟨b,.by sd 6,_,_,_,_,hw2,gQ (Nat.le_of_eq h3) (by show (tC sd _).length+48<=400;rw [jM];omega),e2.trans (if_pos e'),fun _=> .inr ⟨rfl,rfl,e'.1.symm⟩,fun h=> absurd h e,rfl,.inl rfl⟩
    ·exact ⟨b,.by sd 6,_,_,_,_,hw2,gQ (Nat.le_of_eq h3) (by show (tC sd _).length+48<=400;rw [jM];omega),e2.trans (if_neg e'),fun _=> .inl ⟨rfl,rfl⟩,fun h=> absurd h e,rfl,.inl rfl⟩
 | false=>
  refine ⟨.tm (pQ 5),vH 5,MB 5,QZ B 5 (bA _),WI B,(show (pQ 5).l.length<=15 by decide),rfl,rfl,psT,fD,fun i hi=> ⟨aaQ hi,aaH hi,by show (dO _).length<=100;rw [iK];decide⟩,?_⟩;have hG:QB (pQ 5):=⟨aas,List.prefix_refl _,(show (pQ 5).l.length<=900 by decide)⟩
  have hL:(pQ 5).l.length<=15:=by decide
  obtain ⟨k,S1,h1,g1,k1,l1⟩:=WB hG (by omega) ha hc;have u1:=(Rf k1 g1 (by omega) hc hc).trans (if_pos rfl);obtain ⟨S2,t1,g2,p2,l2⟩:=WQ B g1 (by omega) hd ha u1;have u2:=(Rf (n:=(c+1) % 5) (sP p2 k1) g2 (by omega) hc (Nat.mod_lt _ (by decide))).trans (if_neg (by omega));have hw:(bP B).yJ (.tm (pQ 5)) (psT c).pb (fD a)=(dO (k:Int),0,.tm S1):=by
   show ((mR 4 (pQ 5) (rpT c) (fD a)).1,(mR 4 (pQ 5) (rpT c) (fD a)).2.1,Su.tm (mR 4 (pQ 5) (rpT c) (fD a)).2.2)= _;rw [h1]
   rfl
  have hb:(dO (k:Int)).length<=400:=by rw [iK];decide
  have hg:((bP B).take (.tm S2) (psT a) (fD ((c+1) % 5)) (dO (k:Int))).2.1=20:=by
   rw [Mw];show ((cZ B).take S2 (psT a) (fD ((c+1) % 5)) (dO (k:Int))).2.1=20;have e2:(cZ B).take S2 (psT a) (fD ((c+1) % 5)) (dO (k:Int))=if (cB S2 (fD ((c+1) % 5)) (dO (k:Int))).2=0 then if ((cZ B).is S2 (psT a) (cB S2 (fD ((c+1) % 5)) (dO (k:Int))).1).1=true then ((cB S2 (fD ((c+1) % 5)) (dO (k:Int))).1,0,((cZ B).is S2 (psT a) (cB S2 (fD ((c+1) % 5)) (dO (k:Int))).1).2) else ([],44,((cZ B).is S2 (psT a) (cB S2 (fD ((c+1) % 5)) (dO (k:Int))).1).2) else ([],(cB S2 (fD ((c+1) % 5)) (dO (k:Int))).2,S2):=rfl
   rw [e2,u2,if_neg (by decide)]
  have ht:=Mw B S1 (psT d) (fD c) (dO (k:Int));rw [t1] at ht;by_cases e:d=a
  ·rw [if_pos e] at ht;exact ⟨_,_,_,_,_,_,hw,hb,ht,fun h=> absurd e h,fun _=> ⟨rfl,rfl⟩,hg,.inr rfl⟩
  ·rw [if_neg e] at ht;exact ⟨_,_,_,_,_,_,hw,hb,ht,fun _=> .inl ⟨rfl,rfl⟩,fun h=> absurd h e,hg,.inr rfl⟩
end
end Go.Proofs.YtpcjekgfnfjbpaaGreat
namespace Go.Proofs.YtpcjekgfnfjbpaaGreat
open Go.RowKit Go.aZ Go.ChangeShapes Go.Maps
attribute [local go_sem ↓] Go.wp_at_zero Go.wp_at_succ
def NQ (b:Bool) (sd:Nat->Int) (i:Nat):Value:=if i=0 then .bool b else .int .u8 (sd (i - 1))
theorem FC (b:Bool) (sd:Nat->Int):Qr b sd=.agg (fC 33 (NQ b sd)):=by kernel_rfl
theorem Tryz.sizeWayE:(Tryz.prog.info? 74).map (·.size)=some 33:=by kernel_rfl
theorem qc {P:Program} {o:Oper} {a:Act} {w:World} {T:TypeId} {x:Operand} {b i:Nat} {v:Value} (ho:o.op=.load T x) (hx:a.eval x=.pointer (some ⟨b,i,none⟩)) (hu:P.underlying T=some .bool) (hc:w.cell? ⟨b,i,none⟩=some v):(execOp a.eval o).run P w=.ok (.value v) w:=by
 unfold execOp;simp only [ho,hx];simp [Instr.loadAt,Instr.sureAddr,loadVar,isAgg,run_underlying hu,go_sem,hc]
section
variable {B : Nat} {w w' w0 w1 w2 w3 : World} {p : Nat} {F F' F0 : Nat -> Prop} {v u vr vs : Value} {ro : List nT} {ss : List (List Int)} {qr qs : Nat -> Nat -> Value} {E : mP B} {R : List Int × Int × E.σ} {L : List (Value × List Int)}
def yc (E:mP B) (w0:World) (p:Nat) (F0:Nat->Prop) (vr vs:Value) (ro:List nT) (ss:List (List Int)) (qr qs:Nat->Nat->Value) (R:List Int × Int × E.σ) (L:List (Value × List Int)) (w:World) (v:Value):Prop:=∃F' u,v=.tuple #[u,.int .i64 R.2.1] /\rF E w0 p F0 w R.2.2 F' vr vs ro ss qr qs/\dK F' w u R.1/\∀e ∈ L,dK F' w e.1 e.2
def BJ (E:mP B) (w0:World) (p:Nat) (F0:Nat->Prop) (vr vs:Value) (ro:List nT) (ss:List (List Int)) (qr qs:Nat->Nat->Value) (R:List Int × Int × E.σ) (L:List (Value × List Int)) (w:World) (v:Value):Prop:=∃F',rF E w0 p F0 w R.2.2 F' vr vs ro ss qr qs/\dK F' w v R.1/\∀e ∈ L,dK F' w e.1 e.2
theorem yc.below (h:yc E w0 p F0 vr vs ro ss qr qs R L w v) (hb:Below w.heap.size w w'):yc E w0 p F0 vr vs ro ss qr qs R L w' v:=by
 obtain ⟨F',u,e,h1,h2,h3⟩:=h;exact ⟨F',u,e,h1.below hb,h2.below hb,fun e he=> (h3 e he).below hb⟩
theorem BJ.below (h:BJ E w0 p F0 vr vs ro ss qr qs R L w v) (hb:Below w.heap.size w w'):BJ E w0 p F0 vr vs ro ss qr qs R L w' v:=by
 obtain ⟨F',h1,h2,h3⟩:=h;exact ⟨F',h1.below hb,h2.below hb,fun e he=> (h3 e he).below hb⟩
theorem rF.tk {X:E.σ} (U:rF E w0 p F0 w X F vr vs ro ss qr qs) (hL:∀e ∈ L,dK F w e.1 e.2) {u:Value} (h:E.ZO w p F u R w'):yc E w0 p F0 vr vs ro ss qr qs R L w' (.tuple #[u,.int .i64 R.2.1]):=by
 obtain ⟨F',m,y,c,f⟩:=h;exact ⟨F',u,rfl,U.step m c f,y,fun e he=> (hL e he).xD c f⟩
end
theorem zV (w:World) (bw:Bool) (sd:Nat->Int) (hs:∀i,i<32->0<=sd i/\sd i<256) (g:Nat->Nat):
  Calls Tryz.prog 6 #[Qr bw sd,.agg (arr .u8 3 fun i=> (g i:Int))] w fun e w'=> e=.returned (.bool true)/\Below w.heap.size w w':=by
 have HWY:Hid (∀w',Calls Tryz.prog 49 #[.agg (fC 33 (NQ bw sd))] w' fun e wb=> ∃p F,e=.returned (.pointer (some ⟨p,0,none⟩))/\sI w'.heap.size wb p F (Su.new bw sd)/\Below w'.heap.size w' wb):=ak fun w'=> by
  rw [<-FC];exact Oc bw sd hs w'
 obtain ⟨V,hV⟩:∃V,V=Qr bw sd:=⟨_,rfl⟩
 have HVR:Hid (V=.agg (fC 33 (NQ bw sd))):=ak (hV.trans (FC bw sd));rw [<-hV];obtain ⟨A,hA⟩:∃A,A=Value.agg (arr .u8 3 fun i=> (g i:Int)):=⟨_,rfl⟩
 rw [<-hA];have HAA:=ak hA;obtain ⟨ra,hra⟩:∃x,x=g 0 % 5:=⟨_,rfl⟩
 obtain ⟨rc,hrc⟩:∃x,x=g 1 % 5:=⟨_,rfl⟩
 obtain ⟨rd,hrd⟩:∃x,x=g 2 % 5:=⟨_,rfl⟩
 have HM0:Hid ((g 0:Int).tmod 5=(ra:Int)):=ak (by rw [Int.tmod_eq_emod_of_nonneg (by omega)];omega);have HM1:Hid ((g 1:Int).tmod 5=(rc:Int)):=ak (by rw [Int.tmod_eq_emod_of_nonneg (by omega)];omega);have HM2:Hid ((g 2:Int).tmod 5=(rd:Int)):=ak (by rw [Int.tmod_eq_emod_of_nonneg (by omega)];omega);have NM:Hid (ra<5):=ak (by omega);have ZU:Hid (rc<5):=ak (by omega);have HLD:Hid (rd<5):=ak (by omega);clear hs hV hA hra hrc hrd
 go_enter Tryz.func6,Tryz.ntmps6
 go_upto_region 1 with (fail);refine aD (fun w1=> (∀i,i<33->w1.cell? ⟨w.heap.size,0+i,none⟩=some (NQ bw sd i))/\aF .u8 w1 (w.heap.size+1) 3 (fun i=> (g i:Int))/\Below w.heap.size w w1) ?_ ?_
 ·rw [HVR.out,HAA.out];exact ⟨fun i hi=> (((bN _ _).alloc (bA _) _).cell (p:=⟨w.heap.size,0+i,none⟩) (by simp)).trans ((cell_of_row _ _ (0+i) _ _ (0,0) (heap_alloc_new w _)).trans (by rw [pz];exact uq hi)),bM (by simp) (by rfl),((bN _ _).alloc (bA _) _).alloc (by simp) _⟩
 rintro w1 ⟨hc1,ha1,b1⟩;have yH:=ak hc1;have HA1:=ak ha1;have B1:=ak b1;have ZV:Hid (w.heap.size<w1.heap.size):=ak (World.block_lt_of_cell? _ _ (hc1 0 (by decide)));obtain ⟨x2,hx2⟩:∃x,x=w.heap.size:=⟨_,rfl⟩
 obtain ⟨x3,hx3⟩:∃x,x=w.heap.size+1:=⟨_,rfl⟩
 rw [<-hx3] at HA1 ⊢;rw [show (Value.pointer (some ⟨w.heap.size,0,none⟩))=.pointer (some ⟨x2,0,none⟩) by rw [hx2]];have yH:Hid (∀i,i<33->w1.cell? ⟨x2,0+i,none⟩=some (NQ bw sd i)):=hx2▸yH;have ZV:Hid (x2<w1.heap.size):=hx2▸ZV;clear hc1 ha1 b1 hx2 hx3;go_wp2_with fail;refine (YG w1).mono ?_;rintro e wb ⟨rfl,b2⟩;have Mj:Hid (∀i,i<33->wb.cell? ⟨x2,0+i,none⟩=some (NQ bw sd i)):=ak fun i hi=> (b2.cell (p:=⟨x2,0+i,none⟩) ZV.out).trans (yH.out i hi);have HA2:Hid (aF .u8 wb x3 3 (fun i=> (g i:Int))):=ak (HA1.out.kept b2);have HL2:Hid (x2<wb.heap.size):=ak (pJ ZV.out b2.size);have B2:=ak (B1.out.trans (b2.mono B1.out.size));clear b2 yH HA1 ZV;go_wp2_with (refine jQ rfl rfl rfl Tryz.underlying74 rfl Tryz.sizeWayE Mj.out ?_);refine (HWY.out wb).mono ?_;rintro e wu ⟨p,F,rfl,hm,b3⟩;have M3:=ak hm;have B3:=ak (B2.out.trans (b3.mono B2.out.size));have HNH:Hid (∀b,b=p\/F b->wb.heap.size<=b):=ak fun b hb=> hm.hi hb;have HW3:Hid (wu.cell? ⟨x2,0,none⟩=some (.bool bw)):=ak ((b3.cell (p:=⟨x2,0,none⟩) HL2.out).trans (Mj.out 0 (by decide)));have HA3:Hid (aF .u8 wu x3 3 (fun i=> (g i:Int))):=ak (HA2.out.kept b3);have adn:=ak b3.size;have JJ:Hid (x3<wb.heap.size):=ak HA2.out.lt;clear hm b3 Mj HA2;obtain ⟨X,ro,ss,hus,hok,hxs,hrl,hsl,P,sc,hps,b,X1,x,f,X2,gf,hto⟩:=aaz wb.heap.size bw sd NM.out ZU.out HLD.out;have HUS:=ak hus;have Fj:=ak hok;have HXS:=ak hxs;have HRL:=ak hrl;have HSL:=ak hsl;have YT:=ak hps;have O:=ak hto
 have agH:Hid (∀w' F' (X':Su) vr vs qr qs,rF (bP wb.heap.size) wu p F w' X' F' vr vs ro ss qr qs->Below w.heap.size w w'/\w'.cell? ⟨x2,0,none⟩=some (.bool bw)):=ak fun w' F' X' vr vs qr qs hu=>
  ⟨B3.out.trans (hu.ch.kV.below B3.out.size fun b hb=> gQ B2.out.size (HNH.out b hb)),(hu.ch.kV.cell (p:=⟨x2,0,none⟩) (pJ HL2.out adn.out) fun hf=> by have:=HNH.out x2 hf;have:=HL2.out;omega).trans HW3.out⟩
 have alj:Hid (∀w' F' (X':Su) vr vs qr qs,rF (bP wb.heap.size) wu p F w' X' F' vr vs ro ss qr qs->∀i,i<3->w'.cell? ⟨x3,i,none⟩=some (.int .u8 (g i:Int))):=ak fun w' F' X' vr vs qr qs hu i hi=>
  (hu.ch.kV.cell (p:=⟨x3,i,none⟩) (pJ JJ.out adn.out) fun hf=> by have:=HNH.out x3 hf;have:=JJ.out;omega).trans (HA3.out.cell i hi)
 clear hus hok hxs hrl hsl hps hto;go_wp2_with fail;refine (BN (E:=bP wb.heap.size) (X:=Su.new bw sd) (F:=F) M3.out (by show (Su.new bw sd).size<=800;rw [Su.SL];decide) Fj.out).mono ?_;rw [HUS.out]
 dsimp only
 rintro e w4 ⟨vr,vs,rfl,F4,qr,qs,hu⟩;have U4:=ak hu;obtain ⟨gr,kr,gs,ks,rfl,rfl⟩:=hu.forms HRL.out HSL.out;have YO:Hid (x3<w4.heap.size):=ak (pJ JJ.out (gQ adn.out hu.ch.kV.size));have G4:=ak (alj.out _ _ _ _ _ _ _ hu);clear hu;go_upto_region 7 with (fail)
 refine aT (n:=129) (by kernel_rfl) (by kernel_rfl) (by kernel_rfl) rfl
  (fun ii vv _=> (match ii with | 0=> vv=.pointer (some ⟨x3,0,none⟩) | 1=> vv=.int .u8 ((g 0:Int)) | 2 | 9=> vv=.int .u8 ((ra:Int)) | 3=> vv=.pointer (some ⟨x3,1,none⟩) | 4=> vv=.int .u8 ((g 1:Int)) | 5 | 10=> vv=.int .u8 ((rc:Int)) | 6=> vv=.pointer (some ⟨x3,2,none⟩) | 7=> vv=.int .u8 ((g 2:Int)) | 8 | 11=> vv=.int .u8 ((rd:Int)) | _=> True))
  (fun w w'=> Below w.heap.size w w') (fun _ _ h=> h) (fun _ _ _ _ h _=> h) ?_ ?_
 ·refine cO ?_;refine ⟨?_,?_,?_,?_,?_,?_,?_,?_,?_,?_,?_,?_,trivial⟩
  ·intro a w2 hB hF hd;exact aH <| aP (aO rfl (hF.same 3 rfl) rfl Tryz.underlying75 (by kernel_rfl) (by decide) (by decide)) rfl
  ·intro a w2 hB hF hd;exact aH <| aP (aR rfl (hd 0 _ rfl (aj rfl)) Tryz.underlying5 ((hB.cell (p:=⟨x3,0,none⟩) YO.out).trans (G4.out 0 (by decide)))) rfl
  ·intro a w2 hB hF hd;exact aH <| aP (Go.aZ.oM rfl (hd 1 _ rfl (aj rfl)) rfl (by decide)) (congrArg (Value.int .u8) (HM0.out))
  ·intro a w2 hB hF hd;exact aH <| aP (aO rfl (hF.same 3 rfl) rfl Tryz.underlying75 (by kernel_rfl) (by decide) (by decide)) rfl
  ·intro a w2 hB hF hd;exact aH <| aP (aR rfl (hd 3 _ rfl (aj rfl)) Tryz.underlying5 ((hB.cell (p:=⟨x3,1,none⟩) YO.out).trans (G4.out 1 (by decide)))) rfl
  ·intro a w2 hB hF hd;exact aH <| aP (Go.aZ.oM rfl (hd 4 _ rfl (aj rfl)) rfl (by decide)) (congrArg (Value.int .u8) (HM1.out))
  ·intro a w2 hB hF hd;exact aH <| aP (aO rfl (hF.same 3 rfl) rfl Tryz.underlying75 (by kernel_rfl) (by decide) (by decide)) rfl
  ·intro a w2 hB hF hd;exact aH <| aP (aR rfl (hd 6 _ rfl (aj rfl)) Tryz.underlying5 ((hB.cell (p:=⟨x3,2,none⟩) YO.out).trans (G4.out 2 (by decide)))) rfl
  ·intro a w2 hB hF hd;exact aH <| aP (Go.aZ.oM rfl (hd 7 _ rfl (aj rfl)) rfl (by decide)) (congrArg (Value.int .u8) (HM2.out))
  ·intro a w2 hB hF hd;exact aH <| mH rfl (hd 2 _ rfl (aj rfl))
  ·intro a w2 hB hF hd;exact aH <| mH rfl (hd 5 _ rfl (aj rfl))
  ·intro a w2 hB hF hd;exact aH <| mH rfl (hd 8 _ rfl (aj rfl))
 ·intro a w5 hB hF hS;have ha:=aI rfl rfl hF [_,_,_,_,_,_,_,_,_,_,_,_] rfl ⟨hS 0 _ rfl,hS 1 _ rfl,hS 2 _ rfl,hS 3 _ rfl,hS 4 _ rfl,hS 5 _ rfl,hS 6 _ rfl,hS 7 _ rfl,hS 8 _ rfl,hS 9 _ rfl,hS 10 _ rfl,hS 11 _ rfl,trivial⟩;simp only [puts,Act.put,dQ,dR,dS] at ha;subst ha;clear hS hF;have U5:=ak (U4.out.below hB);clear hB U4 G4 YO;obtain ⟨r1,r2,_⟩:=YT.out rc ZU.out;have AB:=ak (U5.out.ro.bs rc _ r1);obtain ⟨_,r3,r4⟩:=YT.out ra NM.out;have Jy:=ak (show dK F4 w5 (qs ra 0) (sc ra) from U5.out.ss.bs ra _ r3);have HL4:=ak r4;obtain ⟨a0,c0,e0⟩:=dK.slice Jy.out;obtain ⟨n0,hn0⟩:∃n,n=(sc ra).length:=⟨_,rfl⟩
  rw [<-hn0] at e0;have NK:Hid (∀i,i<3->w5.cell? ⟨gr,rc * 3+i,none⟩=some (qr rc i)):=ak (U5.out.Oq HRL.out ZU.out);have Mh:Hid (w5.cell? ⟨gs,ra * 1,none⟩=some (.slice a0 n0 c0)):=ak ((U5.out.Km HSL.out NM.out).trans (by rw [e0]));have Qz:Hid (gr<w5.heap.size):=ak (U5.out.ro.os.m.lt gr rfl);have Qy:Hid (gs<w5.heap.size):=ak (U5.out.ss.os.m.lt gs rfl);have Wx:Hid (∀w',Below w5.heap.size w5 w'->Calls Tryz.prog 50 #[.pointer (some ⟨p,0,none⟩),.agg (fC 3 (qr rc)),.slice a0 n0 c0] w' fun e wz=> ∃t,e=.returned t/\yc (bP wb.heap.size) wu p F (.slice (some ⟨gr,0,none⟩) 5 kr) (.slice (some ⟨gs,0,none⟩) 5 ks) ro ss qr qs (b,0,X1) [] wz t):=ak fun w' hb'=> by
   have hU:=U5.out.below hb';have hg:=zX hU.m (AB.out.below hb') (dK.below (show dK F4 w5 (.slice a0 n0 c0) (sc ra) from e0▸Jy.out) hb') (gQ HL4.out (by decide)) (gQ HXS.out (by decide));have hw:=O.out.wr;have hg2:Calls Tryz.prog 50 #[.pointer (some ⟨p,0,none⟩),.agg (fC 3 (qr rc)),.slice a0 n0 c0] w' fun e w''=> ∃u,e=.returned (.tuple #[u,.int .i64 0])/\(bP wb.heap.size).ZO w' p F4 u (b,0,X1) w'':=by rw [hw] at hg;exact hg
   refine hg2.mono ?_;rintro e wz ⟨u,rfl,hr⟩;exact ⟨_,rfl,hU.tk (fun e he=> by cases he) hr⟩
  clear r1 r2 r3 r4 hn0 e0;go_upto_region 8 with (fail)
  refine jP (n:=129) 9 (by kernel_rfl) (by kernel_rfl) (by kernel_rfl) (by kernel_rfl) (by kernel_rfl) rfl
   (fun ii vv=> (match ii with | 0=> vv=.pointer (some ⟨p,0,none⟩) | 1=> vv=.slice (some ⟨gr,0,none⟩) 5 kr | 2=> vv=.int .u8 ((rc:Int)) | 3=> vv=.pointer (some ⟨gr,rc * 3,none⟩) | 4=> vv=.agg (fC 3 (qr rc)) | 5=> vv=.slice (some ⟨gs,0,none⟩) 5 ks | 6=> vv=.int .u8 ((ra:Int)) | 7=> vv=.pointer (some ⟨gs,ra * 1,none⟩) | 8=> vv=.slice a0 n0 c0 | 12 | 14=> vv=.int .i64 (0) | _=> True)) (fun ii vv ww=> (ii=9->yc (bP wb.heap.size) wu p F (.slice (some ⟨gr,0,none⟩) 5 kr) (.slice (some ⟨gs,0,none⟩) 5 ks) ro ss qr qs (b,0,X1) [] ww vv)/\(ii=10->yc (bP wb.heap.size) wu p F (.slice (some ⟨gr,0,none⟩) 5 kr) (.slice (some ⟨gs,0,none⟩) 5 ks) ro ss qr qs (b,0,X1) [] ww vv)/\(ii=11->BJ (bP wb.heap.size) wu p F (.slice (some ⟨gr,0,none⟩) 5 kr) (.slice (some ⟨gs,0,none⟩) 5 ks) ro ss qr qs (b,0,X1) [] ww vv)/\(ii=13->BJ (bP wb.heap.size) wu p F (.slice (some ⟨gr,0,none⟩) 5 kr) (.slice (some ⟨gs,0,none⟩) 5 ks) ro ss qr qs (b,0,X1) [] ww vv))
   (fun i v w w' h hE=> ⟨fun e=> yc.below (h.1 e) hE,fun e=> yc.below (h.2.1 e) hE,fun e=> BJ.below (h.2.2.1 e) hE,fun e=> BJ.below (h.2.2.2 e) hE⟩)
   (fun ww=> True) (fun _ _ _ _=> trivial) ?_ ?_ ?_
  ·refine cO ?_;refine ⟨?_,?_,?_,?_,?_,?_,?_,?_,?_,(fun h=> absurd rfl h),?_,?_,?_,?_,?_,trivial⟩
   ·intro _ a w2 hB' hP hF hd;have hB:=hB' (by kernel_rfl);exact aH <| dJ rfl ⟨(hF.same 5 rfl),aJ,aJ,aJ,aJ⟩
   ·intro _ a w2 hB' hP hF hd;have hB:=hB' (by kernel_rfl);exact aH <| dJ rfl ⟨(hF.same 6 rfl),aJ,aJ,aJ,aJ⟩
   ·intro _ a w2 hB' hP hF hd;have hB:=hB' (by kernel_rfl);exact aH <| dJ rfl ⟨(hF.same 10 rfl),aJ,aJ,aJ,aJ⟩
   ·intro _ a w2 hB' hP hF hd;have hB:=hB' (by kernel_rfl);exact aH <| aP (bQ (i:=rc) (sz:=3) rfl ((hd 1 _ rfl rfl).1) ((hd 2 _ rfl rfl).1) Tryz.underlying57 Tryz.sizePs ZU.out) ⟨rfl,aJ,aJ,aJ,aJ⟩
   ·intro _ a w2 hB' hP hF hd;have hB:=hB' (by kernel_rfl);exact aH <| aP (iq rfl ((hd 3 _ rfl rfl).1) Tryz.underlying78 rfl Tryz.sizePs (fun i hi=> (hB.cell (p:=⟨gr,rc * 3+i,none⟩) Qz.out).trans (NK.out i hi))) ⟨rfl,aJ,aJ,aJ,aJ⟩
   ·intro _ a w2 hB' hP hF hd;have hB:=hB' (by kernel_rfl);exact aH <| dJ rfl ⟨(hF.same 7 rfl),aJ,aJ,aJ,aJ⟩
   ·intro _ a w2 hB' hP hF hd;have hB:=hB' (by kernel_rfl);exact aH <| dJ rfl ⟨(hF.same 9 rfl),aJ,aJ,aJ,aJ⟩
   ·intro _ a w2 hB' hP hF hd;have hB:=hB' (by kernel_rfl);exact aH <| aP (bQ (i:=ra) (sz:=1) rfl ((hd 5 _ rfl rfl).1) ((hd 6 _ rfl rfl).1) Tryz.underlying55 Tryz.sizeBs NM.out) ⟨rfl,aJ,aJ,aJ,aJ⟩
   ·intro _ a w2 hB' hP hF hd;have hB:=hB' (by kernel_rfl);exact aH <| aP (bV rfl ((hd 7 _ rfl rfl).1) jI ((hB.cell (p:=⟨gs,ra * 1,none⟩) Qy.out).trans Mh.out)) ⟨rfl,aJ,aJ,aJ,aJ⟩
   ·intro _ a w2 hB' hP hF hd;exact aH <| dJ rfl ⟨trivial,aJ,fun _=> ((((hd 9 _ rfl rfl).2 (by kernel_rfl)).1 rfl)),aJ,aJ⟩
   ·intro _ a w2 hB' hP hF hd;rw [if_pos (bJ rfl)];obtain ⟨F_,u_,wh,Cv,Nj⟩:=(((hd 10 _ rfl rfl).2 (by kernel_rfl)).2.1 rfl)
    exact aP (bg rfl wh rfl) ⟨trivial,aJ,aJ,fun _=> (⟨F_,Cv,Nj⟩),aJ⟩
   ·intro _ a w2 hB' hP hF hd;rw [if_pos (bJ rfl)];obtain ⟨F_,u_,wh,Cv,Nj⟩:=(((hd 10 _ rfl rfl).2 (by kernel_rfl)).2.1 rfl)
    exact aP (bg rfl wh rfl) ⟨rfl,aJ,aJ,aJ,aJ⟩
   ·intro _ a w2 hB' hP hF hd;exact aH <| mH rfl ⟨trivial,aJ,aJ,aJ,fun _=> (((hd 11 _ rfl rfl).2 (by kernel_rfl)).2.2.1 rfl)⟩
   ·intro _ a w2 hB' hP hF hd;exact aH <| mH rfl ⟨((hd 12 _ rfl rfl).1),aJ,aJ,aJ,aJ⟩
  ·intro o ho a w2 hB hF hd;obtain rfl:=fO ho;refine ⟨by rw [bJ rfl],?_⟩;refine nW 50 #[.tmp 40,.tmp 44,.tmp 48] _ rfl Tryz.call50 _ (sH ((hd 0 _ rfl rfl).1) ((hd 4 _ rfl rfl).1) ((hd 8 _ rfl rfl).1)) (by simp) ((Wx.out w2 hB).mono ?_);rintro e w3 ⟨x,rfl,hr⟩;exact ⟨x,rfl,⟨trivial,fun _=> (hr),aJ,aJ,aJ⟩,trivial⟩
  ·intro a w6 hP hF hS;obtain ⟨x49,aby⟩:∃x,x=a.tmps.getD 49 undef:=⟨_,rfl⟩
   have P49:yc (bP wb.heap.size) wu p F (.slice (some ⟨gr,0,none⟩) 5 kr) (.slice (some ⟨gs,0,none⟩) 5 ks) ro ss qr qs (b,0,X1) [] w6 x49:=by rw [aby];exact ((hS 9 _ rfl).2 (by kernel_rfl)).1 rfl
   obtain ⟨x39,hx39⟩:∃x,x=a.tmps.getD 39 undef:=⟨_,rfl⟩
   have P39:yc (bP wb.heap.size) wu p F (.slice (some ⟨gr,0,none⟩) 5 kr) (.slice (some ⟨gs,0,none⟩) 5 ks) ro ss qr qs (b,0,X1) [] w6 x39:=by rw [hx39];exact ((hS 10 _ rfl).2 (by kernel_rfl)).2.1 rfl
   obtain ⟨x50,abx⟩:∃x,x=a.tmps.getD 50 undef:=⟨_,rfl⟩
   have P50:BJ (bP wb.heap.size) wu p F (.slice (some ⟨gr,0,none⟩) 5 kr) (.slice (some ⟨gs,0,none⟩) 5 ks) ro ss qr qs (b,0,X1) [] w6 x50:=by rw [abx];exact ((hS 11 _ rfl).2 (by kernel_rfl)).2.2.1 rfl
   obtain ⟨x12,abF⟩:∃x,x=a.tmps.getD 12 undef:=⟨_,rfl⟩
   have P12:BJ (bP wb.heap.size) wu p F (.slice (some ⟨gr,0,none⟩) 5 kr) (.slice (some ⟨gs,0,none⟩) 5 ks) ro ss qr qs (b,0,X1) [] w6 x12:=by rw [abF];exact ((hS 13 _ rfl).2 (by kernel_rfl)).2.2.2 rfl
   have ha:=aI rfl rfl hF [_,_,_,_,_,_,_,_,_,x49,x39,x50,_,x12,_] rfl ⟨(hS 0 _ rfl).1,(hS 1 _ rfl).1,(hS 2 _ rfl).1,(hS 3 _ rfl).1,(hS 4 _ rfl).1,(hS 5 _ rfl).1,(hS 6 _ rfl).1,(hS 7 _ rfl).1,(hS 8 _ rfl).1,aby.symm,hx39.symm,abx.symm,(hS 12 _ rfl).1,abF.symm,(hS 14 _ rfl).1,trivial⟩;simp only [puts,Act.put,dQ,dR,dS] at ha;subst ha;clear aby hx39 abx abF;clear hS hF;obtain ⟨F6,hu6,hy6,_⟩:=P12;have U6:=ak hu6;obtain ⟨a9,c9,e9⟩:=hy6.slice;subst e9;obtain ⟨n9,hn9⟩:∃n,n=b.length:=⟨_,rfl⟩
   have HY6:=ak hy6;have HN9:Hid (n9=b.length):=ak hn9
   dsimp only at HY6
   rw [<-hn9] at HY6 ⊢;clear hu6 hy6 hn9 U5 AB Jy HL4 NK Mh Qz Qy Wx P49 P39 P50;obtain ⟨r1,_,_⟩:=YT.out rd HLD.out;have AB:=ak (U6.out.ro.bs rd _ r1);obtain ⟨_,r3,r4⟩:=YT.out rc ZU.out;have Jy:=ak (show dK F6 w6 (qs rc 0) (sc rc) from U6.out.ss.bs rc _ r3);obtain ⟨a0,c0,e0⟩:=dK.slice Jy.out;obtain ⟨n0,hn0⟩:∃n,n=(sc rc).length:=⟨_,rfl⟩
   rw [<-hn0] at e0;have NK:Hid (∀i,i<3->w6.cell? ⟨gr,rd * 3+i,none⟩=some (qr rd i)):=ak (U6.out.Oq HRL.out HLD.out);have Mh:Hid (w6.cell? ⟨gs,rc * 1,none⟩=some (.slice a0 n0 c0)):=ak ((U6.out.Km HSL.out ZU.out).trans (by rw [e0]));have Qz:Hid (gr<w6.heap.size):=ak (U6.out.ro.os.m.lt gr rfl);have Qy:Hid (gs<w6.heap.size):=ak (U6.out.ss.os.m.lt gs rfl);have Wx:Hid (∀w',Below w6.heap.size w6 w'->Calls Tryz.prog 51 #[.pointer (some ⟨p,0,none⟩),.agg (fC 3 (qr rd)),.slice a0 n0 c0,.slice a9 n9 c9] w' fun e wz=> ∃t,e=.returned t/\yc (bP wb.heap.size) wu p F (.slice (some ⟨gr,0,none⟩) 5 kr) (.slice (some ⟨gs,0,none⟩) 5 ks) ro ss qr qs (x,f,X2) [(.slice a9 n9 c9,b)] wz t):=ak fun w' hb'=> by
    have hU:=U6.out.below hb';have hg:=sV hU.m (AB.out.below hb') (dK.below (show dK F6 w6 (.slice a0 n0 c0) (sc rc) from e0▸Jy.out) hb') (HY6.out.below hb') O.out.bl (show X1.size<=890 by have:=HXS.out;have:=Su.yI X (P rc).pb (sc ra);have e:=O.out.wr;have e2:X.yJ (P rc).pb (sc ra)=(b,0,X1):=e;rw [e2] at this;exact gQ this (by omega));have hw:=O.out.tk;have hg2:Calls Tryz.prog 51 #[.pointer (some ⟨p,0,none⟩),.agg (fC 3 (qr rd)),.slice a0 n0 c0,.slice a9 n9 c9] w' fun e w''=> ∃u,e=.returned (.tuple #[u,.int .i64 f])/\(bP wb.heap.size).ZO w' p F6 u (x,f,X2) w'':=by rw [hw] at hg;exact hg
    refine hg2.mono ?_;rintro e wz ⟨u,rfl,hr⟩;exact ⟨_,rfl,hU.tk (fun e he=> by obtain rfl:=List.mem_singleton.1 he;exact HY6.out.below hb') hr⟩
   clear r1 r3 r4 hn0 e0;go_upto_region 9 with (fail)
   refine jP (n:=129) 10 (by kernel_rfl) (by kernel_rfl) (by kernel_rfl) (by kernel_rfl) (by kernel_rfl) rfl
    (fun ii vv=> (match ii with | 0=> vv=.pointer (some ⟨p,0,none⟩) | 1=> vv=.slice (some ⟨gr,0,none⟩) 5 kr | 2=> vv=.int .u8 ((rd:Int)) | 3=> vv=.pointer (some ⟨gr,rd * 3,none⟩) | 4=> vv=.agg (fC 3 (qr rd)) | 5=> vv=.slice (some ⟨gs,0,none⟩) 5 ks | 6=> vv=.int .u8 ((rc:Int)) | 7=> vv=.pointer (some ⟨gs,rc * 1,none⟩) | 8=> vv=.slice a0 n0 c0 | 9=> vv=.slice a9 n9 c9 | 13 | 15=> vv=.int .i64 (f) | _=> True)) (fun ii vv ww=> (ii=10->yc (bP wb.heap.size) wu p F (.slice (some ⟨gr,0,none⟩) 5 kr) (.slice (some ⟨gs,0,none⟩) 5 ks) ro ss qr qs (x,f,X2) [(.slice a9 n9 c9,b)] ww vv)/\(ii=11->yc (bP wb.heap.size) wu p F (.slice (some ⟨gr,0,none⟩) 5 kr) (.slice (some ⟨gs,0,none⟩) 5 ks) ro ss qr qs (x,f,X2) [(.slice a9 n9 c9,b)] ww vv)/\(ii=12->BJ (bP wb.heap.size) wu p F (.slice (some ⟨gr,0,none⟩) 5 kr) (.slice (some ⟨gs,0,none⟩) 5 ks) ro ss qr qs (x,f,X2) [(.slice a9 n9 c9,b)] ww vv)/\(ii=14->BJ (bP wb.heap.size) wu p F (.slice (some ⟨gr,0,none⟩) 5 kr) (.slice (some ⟨gs,0,none⟩) 5 ks) ro ss qr qs (x,f,X2) [(.slice a9 n9 c9,b)] ww vv))
    (fun i v w w' h hE=> ⟨fun e=> yc.below (h.1 e) hE,fun e=> yc.below (h.2.1 e) hE,fun e=> BJ.below (h.2.2.1 e) hE,fun e=> BJ.below (h.2.2.2 e) hE⟩)
    (fun ww=> True) (fun _ _ _ _=> trivial) ?_ ?_ ?_
   ·refine cO ?_;refine ⟨?_,?_,?_,?_,?_,?_,?_,?_,?_,?_,(fun h=> absurd rfl h),?_,?_,?_,?_,?_,trivial⟩
    ·intro _ a w2 hB' hP hF hd;have hB:=hB' (by kernel_rfl);exact aH <| dJ rfl ⟨(hF.same 5 rfl),aJ,aJ,aJ,aJ⟩
    ·intro _ a w2 hB' hP hF hd;have hB:=hB' (by kernel_rfl);exact aH <| dJ rfl ⟨(hF.same 6 rfl),aJ,aJ,aJ,aJ⟩
    ·intro _ a w2 hB' hP hF hd;have hB:=hB' (by kernel_rfl);exact aH <| dJ rfl ⟨(hF.same 11 rfl),aJ,aJ,aJ,aJ⟩
    ·intro _ a w2 hB' hP hF hd;have hB:=hB' (by kernel_rfl);exact aH <| aP (bQ (i:=rd) (sz:=3) rfl ((hd 1 _ rfl rfl).1) ((hd 2 _ rfl rfl).1) Tryz.underlying57 Tryz.sizePs HLD.out) ⟨rfl,aJ,aJ,aJ,aJ⟩
    ·intro _ a w2 hB' hP hF hd;have hB:=hB' (by kernel_rfl);exact aH <| aP (iq rfl ((hd 3 _ rfl rfl).1) Tryz.underlying78 rfl Tryz.sizePs (fun i hi=> (hB.cell (p:=⟨gr,rd * 3+i,none⟩) Qz.out).trans (NK.out i hi))) ⟨rfl,aJ,aJ,aJ,aJ⟩
    ·intro _ a w2 hB' hP hF hd;have hB:=hB' (by kernel_rfl);exact aH <| dJ rfl ⟨(hF.same 7 rfl),aJ,aJ,aJ,aJ⟩
    ·intro _ a w2 hB' hP hF hd;have hB:=hB' (by kernel_rfl);exact aH <| dJ rfl ⟨(hF.same 10 rfl),aJ,aJ,aJ,aJ⟩
    ·intro _ a w2 hB' hP hF hd;have hB:=hB' (by kernel_rfl);exact aH <| aP (bQ (i:=rc) (sz:=1) rfl ((hd 5 _ rfl rfl).1) ((hd 6 _ rfl rfl).1) Tryz.underlying55 Tryz.sizeBs ZU.out) ⟨rfl,aJ,aJ,aJ,aJ⟩
    ·intro _ a w2 hB' hP hF hd;have hB:=hB' (by kernel_rfl);exact aH <| aP (bV rfl ((hd 7 _ rfl rfl).1) jI ((hB.cell (p:=⟨gs,rc * 1,none⟩) Qy.out).trans Mh.out)) ⟨rfl,aJ,aJ,aJ,aJ⟩
    ·intro _ a w2 hB' hP hF hd;have hB:=hB' (by kernel_rfl);exact aH <| dJ rfl ⟨(hF.same 12 rfl),aJ,aJ,aJ,aJ⟩
    ·intro _ a w2 hB' hP hF hd;exact aH <| dJ rfl ⟨trivial,aJ,fun _=> ((((hd 10 _ rfl rfl).2 (by kernel_rfl)).1 rfl)),aJ,aJ⟩
    ·intro _ a w2 hB' hP hF hd;rw [if_pos (bJ rfl)];obtain ⟨F_,u_,wh,Cv,Nj⟩:=(((hd 11 _ rfl rfl).2 (by kernel_rfl)).2.1 rfl)
     exact aP (bg rfl wh rfl) ⟨trivial,aJ,aJ,fun _=> (⟨F_,Cv,Nj⟩),aJ⟩
    ·intro _ a w2 hB' hP hF hd;rw [if_pos (bJ rfl)];obtain ⟨F_,u_,wh,Cv,Nj⟩:=(((hd 11 _ rfl rfl).2 (by kernel_rfl)).2.1 rfl)
     exact aP (bg rfl wh rfl) ⟨rfl,aJ,aJ,aJ,aJ⟩
    ·intro _ a w2 hB' hP hF hd;exact aH <| mH rfl ⟨trivial,aJ,aJ,aJ,fun _=> (((hd 12 _ rfl rfl).2 (by kernel_rfl)).2.2.1 rfl)⟩
    ·intro _ a w2 hB' hP hF hd;exact aH <| mH rfl ⟨((hd 13 _ rfl rfl).1),aJ,aJ,aJ,aJ⟩
   ·intro o ho a w2 hB hF hd;obtain rfl:=fO ho;refine ⟨by rw [bJ rfl],?_⟩;refine nW 51 #[.tmp 53,.tmp 57,.tmp 61,.tmp 62] _ rfl Tryz.call51 _ (qL ((hd 0 _ rfl rfl).1) ((hd 4 _ rfl rfl).1) ((hd 8 _ rfl rfl).1) ((hd 9 _ rfl rfl).1)) (by simp) ((Wx.out w2 hB).mono ?_);rintro e w3 ⟨x,rfl,hr⟩;exact ⟨x,rfl,⟨trivial,fun _=> (hr),aJ,aJ,aJ⟩,trivial⟩
   ·intro a w7 hP hF hS;obtain ⟨x63,Lb⟩:∃x,x=a.tmps.getD 63 undef:=⟨_,rfl⟩
    have P63:yc (bP wb.heap.size) wu p F (.slice (some ⟨gr,0,none⟩) 5 kr) (.slice (some ⟨gs,0,none⟩) 5 ks) ro ss qr qs (x,f,X2) [(.slice a9 n9 c9,b)] w7 x63:=by rw [Lb];exact ((hS 10 _ rfl).2 (by kernel_rfl)).1 rfl
    obtain ⟨x52,abw⟩:∃x,x=a.tmps.getD 52 undef:=⟨_,rfl⟩
    have P52:yc (bP wb.heap.size) wu p F (.slice (some ⟨gr,0,none⟩) 5 kr) (.slice (some ⟨gs,0,none⟩) 5 ks) ro ss qr qs (x,f,X2) [(.slice a9 n9 c9,b)] w7 x52:=by rw [abw];exact ((hS 11 _ rfl).2 (by kernel_rfl)).2.1 rfl
    obtain ⟨x64,La⟩:∃x,x=a.tmps.getD 64 undef:=⟨_,rfl⟩
    have Jw:BJ (bP wb.heap.size) wu p F (.slice (some ⟨gr,0,none⟩) 5 kr) (.slice (some ⟨gs,0,none⟩) 5 ks) ro ss qr qs (x,f,X2) [(.slice a9 n9 c9,b)] w7 x64:=by rw [La];exact ((hS 12 _ rfl).2 (by kernel_rfl)).2.2.1 rfl
    obtain ⟨x14,abE⟩:∃x,x=a.tmps.getD 14 undef:=⟨_,rfl⟩
    have P14:BJ (bP wb.heap.size) wu p F (.slice (some ⟨gr,0,none⟩) 5 kr) (.slice (some ⟨gs,0,none⟩) 5 ks) ro ss qr qs (x,f,X2) [(.slice a9 n9 c9,b)] w7 x14:=by rw [abE];exact ((hS 14 _ rfl).2 (by kernel_rfl)).2.2.2 rfl
    have ha:=aI rfl rfl hF [_,_,_,_,_,_,_,_,_,_,x63,x52,x64,_,x14,_] rfl ⟨(hS 0 _ rfl).1,(hS 1 _ rfl).1,(hS 2 _ rfl).1,(hS 3 _ rfl).1,(hS 4 _ rfl).1,(hS 5 _ rfl).1,(hS 6 _ rfl).1,(hS 7 _ rfl).1,(hS 8 _ rfl).1,(hS 9 _ rfl).1,Lb.symm,abw.symm,La.symm,(hS 13 _ rfl).1,abE.symm,(hS 15 _ rfl).1,trivial⟩;simp only [puts,Act.put,dQ,dR,dS] at ha;subst ha;clear Lb abw La abE;clear hS hF;obtain ⟨F7,hu7,hy7,hl7⟩:=P14;have U7:=ak hu7;have HY7:=ak (hl7 _ (List.mem_singleton.2 rfl));have HW7:=ak (agH.out _ _ _ _ _ _ _ hu7);obtain ⟨a7,c7,e7⟩:=hy7.slice;subst e7;have HX7:=ak hy7
    dsimp only at HX7 HY7 ⊢
    clear U6 HY6 AB Jy NK Mh Qz Qy Wx P63 P52 Jw;clear hu7 hy7 hl7;have HX2:Hid (X2.size<=890):=ak (by
     have h1:X1.size<=16:=by have:=HXS.out;have h2:=Su.yI X (P rc).pb (sc ra);have e2:X.yJ (P rc).pb (sc ra)=(b,0,X1):=O.out.wr;rw [e2] at h2;exact gQ h2 (by omega)
     have h3:=(bP wb.heap.size).toEng.szT X1 (P rd) (sc rc) b;rw [O.out.tk] at h3;exact gQ h3 (show X1.size+2<=890 by omega))
    by_cases hda:rd=ra
    ·subst hda;obtain ⟨y1,y2⟩:=O.out.ye rfl;subst y1 y2;have q1:(rd !=rd)=false:=by simp
     have q2:((rd:Int) !=(rd:Int))=false:=by simp
     obtain ⟨⟨Y1,Nq,X3⟩,hY⟩:∃r,r=(bP wb.heap.size).take X2 (P rd) (sc ((rc+1) % 5)) b:=⟨_,rfl⟩
     have hgf:=O.out.t2;rw [<-hY] at hgf
     dsimp only at hgf
     subst hgf;have HYE:=ak hY;clear hY;obtain ⟨rn,hrn⟩:∃r,r=(rc+1) % 5:=⟨_,rfl⟩
     have HRN:Hid (rn<5):=ak (by omega);have HA5:Hid (IntKind.u8.wrap ((rc:Int)+1)=((rc+1:Nat):Int)):=ak ((by decide:∀j:Fin 5,IntKind.u8.wrap (((j.val:Nat):Int)+1)=((j.val+1:Nat):Int)) ⟨rc,ZU.out⟩);have HM5:Hid (((rc+1:Nat):Int).tmod 5=(rn:Int)):=ak (by rw [Int.tmod_eq_emod_of_nonneg (by omega)];omega);have akv:Hid (X2.size<=890):=ak HX2.out;rw [<-hrn] at HYE;clear hrn;obtain ⟨r1,_,_⟩:=YT.out rd NM.out;have AB:=ak (U7.out.ro.bs rd _ r1);obtain ⟨_,r3,r4⟩:=YT.out rn HRN.out;have Jy:=ak (show dK F7 w7 (qs rn 0) (sc rn) from U7.out.ss.bs rn _ r3);obtain ⟨a0,c0,e0⟩:=dK.slice Jy.out;obtain ⟨n0,hn0⟩:∃n,n=(sc rn).length:=⟨_,rfl⟩
     rw [<-hn0] at e0;have NK:Hid (∀i,i<3->w7.cell? ⟨gr,rd * 3+i,none⟩=some (qr rd i)):=ak (U7.out.Oq HRL.out NM.out);have Mh:Hid (w7.cell? ⟨gs,rn * 1,none⟩=some (.slice a0 n0 c0)):=ak ((U7.out.Km HSL.out HRN.out).trans (by rw [e0]));have Qz:Hid (gr<w7.heap.size):=ak (U7.out.ro.os.m.lt gr rfl);have Qy:Hid (gs<w7.heap.size):=ak (U7.out.ss.os.m.lt gs rfl);have Wx:Hid (∀w',Below w7.heap.size w7 w'->Calls Tryz.prog 51 #[.pointer (some ⟨p,0,none⟩),.agg (fC 3 (qr rd)),.slice a0 n0 c0,.slice a9 n9 c9] w' fun e wz=> ∃t,e=.returned t/\yc (bP wb.heap.size) wu p F (.slice (some ⟨gr,0,none⟩) 5 kr) (.slice (some ⟨gs,0,none⟩) 5 ks) ro ss qr qs (Y1,Nq,X3) [(.slice a7 (sc rd).length c7,sc rd)] wz t):=ak fun w' hb'=> by
      have hU:=U7.out.below hb';have hg:=sV hU.m (AB.out.below hb') (dK.below (show dK F7 w7 (.slice a0 n0 c0) (sc rn) from e0▸Jy.out) hb') (HY7.out.below hb') O.out.bl (show X2.size<=890 by exact akv.out);have hg2:Calls Tryz.prog 51 #[.pointer (some ⟨p,0,none⟩),.agg (fC 3 (qr rd)),.slice a0 n0 c0,.slice a9 n9 c9] w' fun e w''=> ∃u,e=.returned (.tuple #[u,.int .i64 Nq])/\(bP wb.heap.size).ZO w' p F7 u (Y1,Nq,X3) w'':=by rw [<-HYE.out] at hg;exact hg
      refine hg2.mono ?_;rintro e wz ⟨u,rfl,hr⟩;exact ⟨_,rfl,hU.tk (fun e he=> by obtain rfl:=List.mem_singleton.1 he;exact HX7.out.below hb') hr⟩
     clear r1 r3 r4 hn0 e0;go_upto_region 14 with (fail)
     refine jP (n:=129) 12 (by kernel_rfl) (by kernel_rfl) (by kernel_rfl) (by kernel_rfl) (by kernel_rfl) rfl
      (fun ii vv=> (match ii with | 0=> vv=.pointer (some ⟨p,0,none⟩) | 1=> vv=.slice (some ⟨gr,0,none⟩) 5 kr | 2=> vv=.int .u8 ((rd:Int)) | 3=> vv=.pointer (some ⟨gr,rd * 3,none⟩) | 4=> vv=.agg (fC 3 (qr rd)) | 5=> vv=.slice (some ⟨gs,0,none⟩) 5 ks | 6=> vv=.int .u8 ((rc:Int)) | 7=> vv=.int .u8 (((rc+1:Nat):Int)) | 8=> vv=.int .u8 ((rn:Int)) | 9=> vv=.pointer (some ⟨gs,rn * 1,none⟩) | 10=> vv=.slice a0 n0 c0 | 11=> vv=.slice a9 n9 c9 | 15 | 17=> vv=.int .i64 (Nq) | _=> True)) (fun ii vv ww=> (ii=12->yc (bP wb.heap.size) wu p F (.slice (some ⟨gr,0,none⟩) 5 kr) (.slice (some ⟨gs,0,none⟩) 5 ks) ro ss qr qs (Y1,Nq,X3) [(.slice a7 (sc rd).length c7,sc rd)] ww vv)/\(ii=13->yc (bP wb.heap.size) wu p F (.slice (some ⟨gr,0,none⟩) 5 kr) (.slice (some ⟨gs,0,none⟩) 5 ks) ro ss qr qs (Y1,Nq,X3) [(.slice a7 (sc rd).length c7,sc rd)] ww vv)/\(ii=14->BJ (bP wb.heap.size) wu p F (.slice (some ⟨gr,0,none⟩) 5 kr) (.slice (some ⟨gs,0,none⟩) 5 ks) ro ss qr qs (Y1,Nq,X3) [(.slice a7 (sc rd).length c7,sc rd)] ww vv)/\(ii=16->BJ (bP wb.heap.size) wu p F (.slice (some ⟨gr,0,none⟩) 5 kr) (.slice (some ⟨gs,0,none⟩) 5 ks) ro ss qr qs (Y1,Nq,X3) [(.slice a7 (sc rd).length c7,sc rd)] ww vv))
      (fun i v w w' h hE=> ⟨fun e=> yc.below (h.1 e) hE,fun e=> yc.below (h.2.1 e) hE,fun e=> BJ.below (h.2.2.1 e) hE,fun e=> BJ.below (h.2.2.2 e) hE⟩)
      (fun ww=> True) (fun _ _ _ _=> trivial) ?_ ?_ ?_
     ·refine cO ?_;refine ⟨?_,?_,?_,?_,?_,?_,?_,?_,?_,?_,?_,?_,(fun h=> absurd rfl h),?_,?_,?_,?_,?_,trivial⟩
      ·intro _ a w2 hB' hP hF hd;have hB:=hB' (by kernel_rfl);exact aH <| dJ rfl ⟨(hF.same 5 rfl),aJ,aJ,aJ,aJ⟩
      ·intro _ a w2 hB' hP hF hd;have hB:=hB' (by kernel_rfl);exact aH <| dJ rfl ⟨(hF.same 6 rfl),aJ,aJ,aJ,aJ⟩
      ·intro _ a w2 hB' hP hF hd;have hB:=hB' (by kernel_rfl);exact aH <| dJ rfl ⟨(hF.same 9 rfl),aJ,aJ,aJ,aJ⟩
      ·intro _ a w2 hB' hP hF hd;have hB:=hB' (by kernel_rfl);exact aH <| aP (bQ (i:=rd) (sz:=3) rfl ((hd 1 _ rfl rfl).1) ((hd 2 _ rfl rfl).1) Tryz.underlying57 Tryz.sizePs NM.out) ⟨rfl,aJ,aJ,aJ,aJ⟩
      ·intro _ a w2 hB' hP hF hd;have hB:=hB' (by kernel_rfl);exact aH <| aP (iq rfl ((hd 3 _ rfl rfl).1) Tryz.underlying78 rfl Tryz.sizePs (fun i hi=> (hB.cell (p:=⟨gr,rd * 3+i,none⟩) Qz.out).trans (NK.out i hi))) ⟨rfl,aJ,aJ,aJ,aJ⟩
      ·intro _ a w2 hB' hP hF hd;have hB:=hB' (by kernel_rfl);exact aH <| dJ rfl ⟨(hF.same 7 rfl),aJ,aJ,aJ,aJ⟩
      ·intro _ a w2 hB' hP hF hd;have hB:=hB' (by kernel_rfl);exact aH <| dJ rfl ⟨(hF.same 10 rfl),aJ,aJ,aJ,aJ⟩
      ·intro _ a w2 hB' hP hF hd;have hB:=hB' (by kernel_rfl);exact aH <| aP (Go.aZ.jA rfl ((hd 6 _ rfl rfl).1) rfl) ⟨(congrArg (Value.int .u8) (HA5.out)),aJ,aJ,aJ,aJ⟩
      ·intro _ a w2 hB' hP hF hd;have hB:=hB' (by kernel_rfl);exact aH <| aP (Go.aZ.oM rfl ((hd 7 _ rfl rfl).1) rfl (by decide)) ⟨(congrArg (Value.int .u8) (HM5.out)),aJ,aJ,aJ,aJ⟩
      ·intro _ a w2 hB' hP hF hd;have hB:=hB' (by kernel_rfl);exact aH <| aP (bQ (i:=rn) (sz:=1) rfl ((hd 5 _ rfl rfl).1) ((hd 8 _ rfl rfl).1) Tryz.underlying55 Tryz.sizeBs HRN.out) ⟨rfl,aJ,aJ,aJ,aJ⟩
      ·intro _ a w2 hB' hP hF hd;have hB:=hB' (by kernel_rfl);exact aH <| aP (bV rfl ((hd 9 _ rfl rfl).1) jI ((hB.cell (p:=⟨gs,rn * 1,none⟩) Qy.out).trans Mh.out)) ⟨rfl,aJ,aJ,aJ,aJ⟩
      ·intro _ a w2 hB' hP hF hd;have hB:=hB' (by kernel_rfl);exact aH <| dJ rfl ⟨(hF.same 12 rfl),aJ,aJ,aJ,aJ⟩
      ·intro _ a w2 hB' hP hF hd;exact aH <| dJ rfl ⟨trivial,aJ,fun _=> ((((hd 12 _ rfl rfl).2 (by kernel_rfl)).1 rfl)),aJ,aJ⟩
      ·intro _ a w2 hB' hP hF hd;rw [if_pos (bJ rfl)];obtain ⟨F_,u_,wh,Cv,Nj⟩:=(((hd 13 _ rfl rfl).2 (by kernel_rfl)).2.1 rfl)
       exact aP (bg rfl wh rfl) ⟨trivial,aJ,aJ,fun _=> (⟨F_,Cv,Nj⟩),aJ⟩
      ·intro _ a w2 hB' hP hF hd;rw [if_pos (bJ rfl)];obtain ⟨F_,u_,wh,Cv,Nj⟩:=(((hd 13 _ rfl rfl).2 (by kernel_rfl)).2.1 rfl)
       exact aP (bg rfl wh rfl) ⟨rfl,aJ,aJ,aJ,aJ⟩
      ·intro _ a w2 hB' hP hF hd;exact aH <| mH rfl ⟨trivial,aJ,aJ,aJ,fun _=> (((hd 14 _ rfl rfl).2 (by kernel_rfl)).2.2.1 rfl)⟩
      ·intro _ a w2 hB' hP hF hd;exact aH <| mH rfl ⟨((hd 15 _ rfl rfl).1),aJ,aJ,aJ,aJ⟩
     ·intro o ho a w2 hB hF hd;obtain rfl:=fO ho;refine ⟨by rw [bJ rfl],?_⟩;refine nW 51 #[.tmp 96,.tmp 100,.tmp 106,.tmp 107] _ rfl Tryz.call51 _ (qL ((hd 0 _ rfl rfl).1) ((hd 4 _ rfl rfl).1) ((hd 10 _ rfl rfl).1) ((hd 11 _ rfl rfl).1)) (by simp) ((Wx.out w2 hB).mono ?_);rintro e w3 ⟨x,rfl,hr⟩;exact ⟨x,rfl,⟨trivial,fun _=> (hr),aJ,aJ,aJ⟩,trivial⟩
     ·intro a w8 hP hF hS;obtain ⟨aew,TI⟩:∃x,x=a.tmps.getD 108 undef:=⟨_,rfl⟩
      have akr:yc (bP wb.heap.size) wu p F (.slice (some ⟨gr,0,none⟩) 5 kr) (.slice (some ⟨gs,0,none⟩) 5 ks) ro ss qr qs (Y1,Nq,X3) [(.slice a7 (sc rd).length c7,sc rd)] w8 aew:=by rw [TI];exact ((hS 12 _ rfl).2 (by kernel_rfl)).1 rfl
      obtain ⟨x95,hx95⟩:∃x,x=a.tmps.getD 95 undef:=⟨_,rfl⟩
      have P95:yc (bP wb.heap.size) wu p F (.slice (some ⟨gr,0,none⟩) 5 kr) (.slice (some ⟨gs,0,none⟩) 5 ks) ro ss qr qs (Y1,Nq,X3) [(.slice a7 (sc rd).length c7,sc rd)] w8 x95:=by rw [hx95];exact ((hS 13 _ rfl).2 (by kernel_rfl)).2.1 rfl
      obtain ⟨aev,TH⟩:∃x,x=a.tmps.getD 109 undef:=⟨_,rfl⟩
      have akq:BJ (bP wb.heap.size) wu p F (.slice (some ⟨gr,0,none⟩) 5 kr) (.slice (some ⟨gs,0,none⟩) 5 ks) ro ss qr qs (Y1,Nq,X3) [(.slice a7 (sc rd).length c7,sc rd)] w8 aev:=by rw [TH];exact ((hS 14 _ rfl).2 (by kernel_rfl)).2.2.1 rfl
      obtain ⟨sJ,hx16⟩:∃x,x=a.tmps.getD 16 undef:=⟨_,rfl⟩
      have P16:BJ (bP wb.heap.size) wu p F (.slice (some ⟨gr,0,none⟩) 5 kr) (.slice (some ⟨gs,0,none⟩) 5 ks) ro ss qr qs (Y1,Nq,X3) [(.slice a7 (sc rd).length c7,sc rd)] w8 sJ:=by rw [hx16];exact ((hS 16 _ rfl).2 (by kernel_rfl)).2.2.2 rfl
      have ha:=aI rfl rfl hF [_,_,_,_,_,_,_,_,_,_,_,_,aew,x95,aev,_,sJ,_] rfl ⟨(hS 0 _ rfl).1,(hS 1 _ rfl).1,(hS 2 _ rfl).1,(hS 3 _ rfl).1,(hS 4 _ rfl).1,(hS 5 _ rfl).1,(hS 6 _ rfl).1,(hS 7 _ rfl).1,(hS 8 _ rfl).1,(hS 9 _ rfl).1,(hS 10 _ rfl).1,(hS 11 _ rfl).1,TI.symm,hx95.symm,TH.symm,(hS 15 _ rfl).1,hx16.symm,(hS 17 _ rfl).1,trivial⟩;simp only [puts,Act.put,dQ,dR,dS] at ha;subst ha;clear TI hx95 TH hx16;clear hS hF;obtain ⟨F8,hu8,hy8,Zw⟩:=P16;obtain ⟨a8,c8,e8⟩:=hy8.slice;subst e8;clear U7 HY7 HX7 AB Jy NK Mh Qz Qy Wx akr P95 akq q1 q2
      dsimp only at hu8 Zw ⊢
      have HW8:=ak (agH.out _ _ _ _ _ _ _ hu8);have HY8:=ak Zw;obtain ⟨_,r3,r4⟩:=YT.out rd NM.out;have Jy:=ak (show dK F8 w8 (qs rd 0) (sc rd) from hu8.ss.bs rd _ r3);obtain ⟨a0,c0,e0⟩:=dK.slice Jy.out;obtain ⟨n0,hn0⟩:∃n,n=(sc rd).length:=⟨_,rfl⟩
      rw [<-hn0] at e0;have Mh:Hid (w8.cell? ⟨gs,rd * 1,none⟩=some (.slice a0 n0 c0)):=ak ((hu8.Km HSL.out NM.out).trans (by rw [e0]));have Qy:Hid (gs<w8.heap.size):=ak (hu8.ss.os.m.lt gs rfl);have agF:Hid (x2<w8.heap.size):=ak (World.block_lt_of_cell? _ _ HW8.out.2);obtain ⟨n8,hn8⟩:∃n,n=(sc rd).length:=⟨_,rfl⟩
      have HSM:Hid (∀w',Below w8.heap.size w8 w'->Calls Tryz.prog 19 #[.slice a7 n8 c7,.slice a0 n0 c0] w' fun e wz=> e=.returned (.bool true)/\Below w'.heap.size w' wz):=ak fun w' hb'=> by
       have h1:=((HY8.out _ (List.mem_cons_self ..)).below hb').rd;have h2:=(dK.below (show dK F8 w8 (.slice a0 n0 c0) (sc rd) from e0▸Jy.out) hb').rd;rw [hn8];exact zf _ _ _ _ _ w' h1 h2 fun _ _=> rfl
      have HG:Hid (bw=true\/Nq=20):=ak O.out.ng;rw [<-hn8];clear hu8 hy8 Zw r3 r4 hn0 e0 hn8;go_upto_region 15 with (fail)
      cases bw with
      | true=>
       refine aT (n:=129) (by kernel_rfl) (by kernel_rfl) (by kernel_rfl) rfl
        (fun ii vv _=> (match ii with | 0=> vv=.int .i64 (0) | 1 | 2 | 8 | 9 | 10 | 12 | 13 | 16 | 17 | 18=> vv=.bool true | 3=> vv=.slice a7 n8 c7 | 4=> vv=.slice (some ⟨gs,0,none⟩) 5 ks | 5=> vv=.int .u8 ((rd:Int)) | 6=> vv=.pointer (some ⟨gs,rd * 1,none⟩) | 7=> vv=.slice a0 n0 c0 | 11=> vv=.pointer (some ⟨x2,0,none⟩) | 14 | 15=> vv=undef | _=> True))
        (fun w w'=> Below w.heap.size w w') (fun _ _ h=> h) (fun _ _ _ _ h _=> h) ?_ ?_
       ·refine cO ?_;refine ⟨?_,?_,?_,?_,?_,?_,?_,?_,?_,?_,?_,?_,?_,?_,?_,?_,?_,?_,?_,trivial⟩
        ·intro a w2 hB hF hd;exact aH <| dJ rfl (hF.same 15 rfl)
        ·intro a w2 hB hF hd;refine aH <| aP (Go.aZ.fI rfl (hd 0 _ rfl (aj rfl)) rfl) ?_;exact rfl
        ·intro a w2 hB hF hd;exact aH <| dJ rfl (hd 1 _ rfl (aj rfl))
        ·intro a w2 hB hF hd;refine aK (aL rfl rfl (hd 2 _ rfl (aj rfl)) rfl) ?_;exact dJ rfl (hF.same 14 rfl)
        ·intro a w2 hB hF hd;refine aK (aL rfl rfl (hd 2 _ rfl (aj rfl)) rfl) ?_;exact dJ rfl (hF.same 7 rfl)
        ·intro a w2 hB hF hd;refine aK (aL rfl rfl (hd 2 _ rfl (aj rfl)) rfl) ?_;exact dJ rfl (hF.same 9 rfl)
        ·intro a w2 hB hF hd;refine aK (aL rfl rfl (hd 2 _ rfl (aj rfl)) rfl) ?_;exact aP (bQ (i:=rd) (sz:=1) rfl (hd 4 _ rfl (aj rfl)) (hd 5 _ rfl (aj rfl)) Tryz.underlying55 Tryz.sizeBs NM.out) rfl
        ·intro a w2 hB hF hd;refine aK (aL rfl rfl (hd 2 _ rfl (aj rfl)) rfl) ?_;exact aP (bV rfl (hd 6 _ rfl (aj rfl)) jI ((hB.cell (p:=⟨gs,rd * 1,none⟩) Qy.out).trans Mh.out)) rfl
        ·intro a w2 hB hF hd;refine aK (aL rfl rfl (hd 2 _ rfl (aj rfl)) rfl) ?_;refine aC _ _ _ rfl Tryz.call19 _ (args2 (hd 3 _ rfl (aj rfl)) (hd 7 _ rfl (aj rfl))) (by simp) ((HSM.out w2 hB).mono ?_);rintro e w3 ⟨rfl,hb⟩;exact ⟨_,rfl,rfl,hb⟩
        ·intro a w2 hB hF hd;exact aH <| aP (eZ rfl (hd 2 _ rfl (aj rfl))) ((hd 8 _ rfl (aj rfl)))
        ·intro a w2 hB hF hd;exact aH <| dJ rfl (hd 9 _ rfl (aj rfl))
        ·intro a w2 hB hF hd;refine aK (aL rfl rfl (hd 10 _ rfl (aj rfl)) rfl) ?_;refine aP (aW (m:=0) (k:=0) rfl (hF.same 2 rfl) (by kernel_rfl)) ?_;exact rfl
        ·intro a w2 hB hF hd;refine aK (aL rfl rfl (hd 10 _ rfl (aj rfl)) rfl) ?_;exact aP (qc rfl (hd 11 _ rfl (aj rfl)) Tryz.underlying4 ((hB.cell (p:=⟨x2,0,none⟩) agF.out).trans HW8.out.2)) rfl
        ·intro a w2 hB hF hd;refine aK (aL rfl rfl (hd 10 _ rfl (aj rfl)) rfl) ?_;exact dJ rfl (hd 12 _ rfl (aj rfl))
        ·intro a w2 hB hF hd;rw [if_neg (by rw [bT rfl rfl (hd 13 _ rfl (aj rfl))];decide)];exact rfl
        ·intro a w2 hB hF hd;rw [if_neg (by rw [bT rfl rfl (hd 13 _ rfl (aj rfl))];decide)];exact rfl
        ·intro a w2 hB hF hd;refine aK (aL rfl rfl (hd 10 _ rfl (aj rfl)) rfl) ?_;exact aP (eZ rfl (hd 13 _ rfl (aj rfl))) (rfl)
        ·intro a w2 hB hF hd;exact aH <| aP (eZ rfl (hd 10 _ rfl (aj rfl))) ((hd 16 _ rfl (aj rfl)))
        ·intro a w2 hB hF hd;exact aH <| mH rfl (hd 17 _ rfl (aj rfl))
       ·intro a w9 hB hF hS;have ha:=aI rfl rfl hF [_,_,_,_,_,_,_,_,_,_,_,_,_,_,_,_,_,_,_] rfl ⟨hS 0 _ rfl,hS 1 _ rfl,hS 2 _ rfl,hS 3 _ rfl,hS 4 _ rfl,hS 5 _ rfl,hS 6 _ rfl,hS 7 _ rfl,hS 8 _ rfl,hS 9 _ rfl,hS 10 _ rfl,hS 11 _ rfl,hS 12 _ rfl,hS 13 _ rfl,hS 14 _ rfl,hS 15 _ rfl,hS 16 _ rfl,hS 17 _ rfl,hS 18 _ rfl,trivial⟩;simp only [puts,Act.put,dQ,dR,dS] at ha;subst ha;clear hS hF;go_wp2;go_ret;exact ⟨rfl,HW8.out.1.trans (hB.mono HW8.out.1.size)⟩
      | false=>
       obtain rfl:Nq=20:=HG.out.resolve_left (by decide)
       refine aT (n:=129) (by kernel_rfl) (by kernel_rfl) (by kernel_rfl) rfl
        (fun ii vv _=> (match ii with | 0=> vv=.int .i64 (0) | 1 | 2 | 8 | 9 | 10 | 15 | 16 | 17 | 18=> vv=.bool true | 3=> vv=.slice a7 n8 c7 | 4=> vv=.slice (some ⟨gs,0,none⟩) 5 ks | 5=> vv=.int .u8 ((rd:Int)) | 6=> vv=.pointer (some ⟨gs,rd * 1,none⟩) | 7=> vv=.slice a0 n0 c0 | 11=> vv=.pointer (some ⟨x2,0,none⟩) | 12 | 13=> vv=.bool false | 14=> vv=.int .i64 (20) | _=> True))
        (fun w w'=> Below w.heap.size w w') (fun _ _ h=> h) (fun _ _ _ _ h _=> h) ?_ ?_
       ·refine cO ?_;refine ⟨?_,?_,?_,?_,?_,?_,?_,?_,?_,?_,?_,?_,?_,?_,?_,?_,?_,?_,?_,trivial⟩
        ·intro a w2 hB hF hd;exact aH <| dJ rfl (hF.same 15 rfl)
        ·intro a w2 hB hF hd;refine aH <| aP (Go.aZ.fI rfl (hd 0 _ rfl (aj rfl)) rfl) ?_;exact rfl
        ·intro a w2 hB hF hd;exact aH <| dJ rfl (hd 1 _ rfl (aj rfl))
        ·intro a w2 hB hF hd;refine aK (aL rfl rfl (hd 2 _ rfl (aj rfl)) rfl) ?_;exact dJ rfl (hF.same 14 rfl)
        ·intro a w2 hB hF hd;refine aK (aL rfl rfl (hd 2 _ rfl (aj rfl)) rfl) ?_;exact dJ rfl (hF.same 7 rfl)
        ·intro a w2 hB hF hd;refine aK (aL rfl rfl (hd 2 _ rfl (aj rfl)) rfl) ?_;exact dJ rfl (hF.same 9 rfl)
        ·intro a w2 hB hF hd;refine aK (aL rfl rfl (hd 2 _ rfl (aj rfl)) rfl) ?_;exact aP (bQ (i:=rd) (sz:=1) rfl (hd 4 _ rfl (aj rfl)) (hd 5 _ rfl (aj rfl)) Tryz.underlying55 Tryz.sizeBs NM.out) rfl
        ·intro a w2 hB hF hd;refine aK (aL rfl rfl (hd 2 _ rfl (aj rfl)) rfl) ?_;exact aP (bV rfl (hd 6 _ rfl (aj rfl)) jI ((hB.cell (p:=⟨gs,rd * 1,none⟩) Qy.out).trans Mh.out)) rfl
        ·intro a w2 hB hF hd;refine aK (aL rfl rfl (hd 2 _ rfl (aj rfl)) rfl) ?_;refine aC _ _ _ rfl Tryz.call19 _ (args2 (hd 3 _ rfl (aj rfl)) (hd 7 _ rfl (aj rfl))) (by simp) ((HSM.out w2 hB).mono ?_);rintro e w3 ⟨rfl,hb⟩;exact ⟨_,rfl,rfl,hb⟩
        ·intro a w2 hB hF hd;exact aH <| aP (eZ rfl (hd 2 _ rfl (aj rfl))) ((hd 8 _ rfl (aj rfl)))
        ·intro a w2 hB hF hd;exact aH <| dJ rfl (hd 9 _ rfl (aj rfl))
        ·intro a w2 hB hF hd;refine aK (aL rfl rfl (hd 10 _ rfl (aj rfl)) rfl) ?_;refine aP (aW (m:=0) (k:=0) rfl (hF.same 2 rfl) (by kernel_rfl)) ?_;exact rfl
        ·intro a w2 hB hF hd;refine aK (aL rfl rfl (hd 10 _ rfl (aj rfl)) rfl) ?_;exact aP (qc rfl (hd 11 _ rfl (aj rfl)) Tryz.underlying4 ((hB.cell (p:=⟨x2,0,none⟩) agF.out).trans HW8.out.2)) rfl
        ·intro a w2 hB hF hd;refine aK (aL rfl rfl (hd 10 _ rfl (aj rfl)) rfl) ?_;exact dJ rfl (hd 12 _ rfl (aj rfl))
        ·intro a w2 hB hF hd;refine aK (aL rfl rfl (hd 13 _ rfl (aj rfl)) rfl) ?_;exact dJ rfl (hF.same 17 rfl)
        ·intro a w2 hB hF hd;refine aK (aL rfl rfl (hd 13 _ rfl (aj rfl)) rfl) ?_;refine aP (Go.aZ.fI rfl (hd 14 _ rfl (aj rfl)) rfl) ?_;exact rfl
        ·intro a w2 hB hF hd;refine aK (aL rfl rfl (hd 10 _ rfl (aj rfl)) rfl) ?_;exact aP (eZ rfl (hd 13 _ rfl (aj rfl))) ((hd 15 _ rfl (aj rfl)))
        ·intro a w2 hB hF hd;exact aH <| aP (eZ rfl (hd 10 _ rfl (aj rfl))) ((hd 16 _ rfl (aj rfl)))
        ·intro a w2 hB hF hd;exact aH <| mH rfl (hd 17 _ rfl (aj rfl))
       ·intro a w9 hB hF hS;have ha:=aI rfl rfl hF [_,_,_,_,_,_,_,_,_,_,_,_,_,_,_,_,_,_,_] rfl ⟨hS 0 _ rfl,hS 1 _ rfl,hS 2 _ rfl,hS 3 _ rfl,hS 4 _ rfl,hS 5 _ rfl,hS 6 _ rfl,hS 7 _ rfl,hS 8 _ rfl,hS 9 _ rfl,hS 10 _ rfl,hS 11 _ rfl,hS 12 _ rfl,hS 13 _ rfl,hS 14 _ rfl,hS 15 _ rfl,hS 16 _ rfl,hS 17 _ rfl,hS 18 _ rfl,trivial⟩;simp only [puts,Act.put,dQ,dR,dS] at ha;subst ha;clear hS hF;go_wp2;go_ret;exact ⟨rfl,HW8.out.1.trans (hB.mono HW8.out.1.size)⟩
    ·have q1:(rd !=ra)=true:=by simpa using hda
     have q2:((rd:Int) !=(ra:Int))=true:=by simp;omega
     have q3:¬ ((rd:Int)=(ra:Int)):=by omega
     have HNO:=ak (O.out.no hda);clear hda;go_upto_region 13 with (fail);rcases HNO.out with ⟨rfl,rfl⟩ | ⟨rfl,rfl,hpp⟩
     ·clear HNO
      refine aT (n:=129) (by kernel_rfl) (by kernel_rfl) (by kernel_rfl) rfl
       (fun ii vv _=> (match ii with | 0=> vv=.int .i64 (44) | 1 | 2 | 5 | 6 | 7 | 23 | 24=> vv=.bool true | 3=> vv=.slice a7 ([] :List Int).length c7 | 4=> vv=.int .i64 ((([] :List Int).length:Int)) | 8 | 9 | 10 | 11 | 12 | 13 | 14 | 15 | 16 | 17 | 18 | 19 | 20 | 21 | 22=> vv=undef | _=> True))
       (fun w w'=> Below w.heap.size w w') (fun _ _ h=> h) (fun _ _ _ _ h _=> h) ?_ ?_
      ·refine cO ?_;refine ⟨?_,?_,?_,?_,?_,?_,?_,?_,?_,?_,?_,?_,?_,?_,?_,?_,?_,?_,?_,?_,?_,?_,?_,?_,?_,trivial⟩
       ·intro a w2 hB hF hd;exact aH <| dJ rfl (hF.same 15 rfl)
       ·intro a w2 hB hF hd;refine aH <| aP (Go.aZ.fI rfl (hd 0 _ rfl (aj rfl)) rfl) ?_;exact rfl
       ·intro a w2 hB hF hd;exact aH <| dJ rfl (hd 1 _ rfl (aj rfl))
       ·intro a w2 hB hF hd;refine aK (aL rfl rfl (hd 2 _ rfl (aj rfl)) rfl) ?_;exact dJ rfl (hF.same 14 rfl)
       ·intro a w2 hB hF hd;refine aK (aL rfl rfl (hd 2 _ rfl (aj rfl)) rfl) ?_;exact aP (kE rfl (hd 3 _ rfl (aj rfl)) jI) rfl
       ·intro a w2 hB hF hd;refine aK (aL rfl rfl (hd 2 _ rfl (aj rfl)) rfl) ?_;refine aP (Go.aZ.fI rfl (hd 4 _ rfl (aj rfl)) rfl) ?_;exact rfl
       ·intro a w2 hB hF hd;exact aH <| aP (eZ rfl (hd 2 _ rfl (aj rfl))) ((hd 5 _ rfl (aj rfl)))
       ·intro a w2 hB hF hd;exact aH <| dJ rfl (hd 6 _ rfl (aj rfl))
       ·intro a w2 hB hF hd;rw [if_neg (by rw [bT rfl rfl (hd 7 _ rfl (aj rfl))];decide)];exact rfl
       ·intro a w2 hB hF hd;rw [if_neg (by rw [bT rfl rfl (hd 7 _ rfl (aj rfl))];decide)];exact rfl
       ·intro a w2 hB hF hd;rw [if_neg (by rw [bT rfl rfl (hd 7 _ rfl (aj rfl))];decide)];exact rfl
       ·intro a w2 hB hF hd;rw [if_neg (by rw [eU rfl rfl (hd 10 _ rfl (aj rfl))];decide)];exact rfl
       ·intro a w2 hB hF hd;rw [if_neg (by rw [eU rfl rfl (hd 10 _ rfl (aj rfl))];decide)];exact rfl
       ·intro a w2 hB hF hd;rw [if_neg (by rw [eU rfl rfl (hd 10 _ rfl (aj rfl))];decide)];exact rfl
       ·intro a w2 hB hF hd;rw [if_neg (by rw [eU rfl rfl (hd 10 _ rfl (aj rfl))];decide)];exact rfl
       ·intro a w2 hB hF hd;rw [if_neg (by rw [eU rfl rfl (hd 10 _ rfl (aj rfl))];decide)];exact rfl
       ·intro a w2 hB hF hd;rw [if_neg (by rw [eU rfl rfl (hd 10 _ rfl (aj rfl))];decide)];exact rfl
       ·intro a w2 hB hF hd;rw [if_neg (by rw [eU rfl rfl (hd 10 _ rfl (aj rfl))];decide)];exact rfl
       ·intro a w2 hB hF hd;rw [if_neg (by rw [eU rfl rfl (hd 10 _ rfl (aj rfl))];decide)];exact rfl
       ·intro a w2 hB hF hd;rw [if_neg (by rw [eU rfl rfl (hd 10 _ rfl (aj rfl))];decide)];exact rfl
       ·intro a w2 hB hF hd;rw [if_neg (by rw [eU rfl rfl (hd 10 _ rfl (aj rfl))];decide)];exact rfl
       ·intro a w2 hB hF hd;rw [if_neg (by rw [eU rfl rfl (hd 10 _ rfl (aj rfl))];decide)];exact rfl
       ·intro a w2 hB hF hd;rw [if_neg (by rw [bT rfl rfl (hd 7 _ rfl (aj rfl))];decide)];exact rfl
       ·intro a w2 hB hF hd;exact aH <| aP (eZ rfl (hd 7 _ rfl (aj rfl))) (rfl)
       ·intro a w2 hB hF hd;exact aH <| mH rfl (hd 23 _ rfl (aj rfl))
      ·intro a w8 hB hF hS;have ha:=aI rfl rfl hF [_,_,_,_,_,_,_,_,_,_,_,_,_,_,_,_,_,_,_,_,_,_,_,_,_] rfl ⟨hS 0 _ rfl,hS 1 _ rfl,hS 2 _ rfl,hS 3 _ rfl,hS 4 _ rfl,hS 5 _ rfl,hS 6 _ rfl,hS 7 _ rfl,hS 8 _ rfl,hS 9 _ rfl,hS 10 _ rfl,hS 11 _ rfl,hS 12 _ rfl,hS 13 _ rfl,hS 14 _ rfl,hS 15 _ rfl,hS 16 _ rfl,hS 17 _ rfl,hS 18 _ rfl,hS 19 _ rfl,hS 20 _ rfl,hS 21 _ rfl,hS 22 _ rfl,hS 23 _ rfl,hS 24 _ rfl,trivial⟩;simp only [puts,Act.put,dQ,dR,dS] at ha;subst ha;clear hS hF;go_wp2;go_ret;exact ⟨rfl,HW7.out.1.trans (hB.mono HW7.out.1.size)⟩
     ·obtain ⟨k1,_,_⟩:=YT.out rd HLD.out;obtain ⟨k2,_,_⟩:=YT.out ra NM.out;have HP1:=ak (U7.out.ro.bs rd _ k1).z1;have ZT:=ak (U7.out.ro.bs ra _ k2).z1;have HR1:=ak (U7.out.Oq HRL.out HLD.out 1 (by decide));have HR2:=ak (U7.out.Oq HRL.out NM.out 1 (by decide));have Qz:Hid (gr<w7.heap.size):=ak (U7.out.ro.os.m.lt gr rfl);have akw:Hid (x2<w7.heap.size):=ak (World.block_lt_of_cell? _ _ HW7.out.2);obtain ⟨a1,c1,e1⟩:=HP1.out.slice;obtain ⟨a2,c2,e2⟩:=ZT.out.slice;obtain ⟨n1,hn1⟩:∃n,n=(P rd).pb.length:=⟨_,rfl⟩
      obtain ⟨n2,hn2⟩:∃n,n=(P ra).pb.length:=⟨_,rfl⟩
      have HSM:Hid (∀w',Below w7.heap.size w7 w'->Calls Tryz.prog 19 #[.slice a1 n1 c1,.slice a2 n2 c2] w' fun e wz=> e=.returned (.bool true)/\Below w'.heap.size w' wz):=ak fun w' hb'=> by
       have h1:=(HP1.out.below hb').rd;have h2:=(ZT.out.below hb').rd;rw [e1] at h1;rw [e2] at h2;rw [hn1,hn2];rw [hpp] at h1 ⊢;exact zf _ _ _ _ _ w' h1 h2 fun _ _=> rfl
      rw [e1,←hn1] at HR1;rw [e2,←hn2] at HR2;clear e1 e2 hn1 hn2 hpp k1 k2
      refine aT (n:=129) (by kernel_rfl) (by kernel_rfl) (by kernel_rfl) rfl
       (fun ii vv _=> (match ii with | 0=> vv=.int .i64 (0) | 1 | 2 | 6 | 7=> vv=.bool false | 3 | 4 | 5=> vv=undef | 8=> vv=.pointer (some ⟨x2,0,none⟩) | 9 | 10 | 21 | 22 | 23 | 24=> vv=.bool true | 11 | 16=> vv=.slice (some ⟨gr,0,none⟩) 5 kr | 12=> vv=.int .u8 ((rd:Int)) | 13=> vv=.pointer (some ⟨gr,rd * 3,none⟩) | 14=> vv=.pointer (some ⟨gr,rd * 3+1,none⟩) | 15=> vv=.slice a1 n1 c1 | 17=> vv=.int .u8 ((ra:Int)) | 18=> vv=.pointer (some ⟨gr,ra * 3,none⟩) | 19=> vv=.pointer (some ⟨gr,ra * 3+1,none⟩) | 20=> vv=.slice a2 n2 c2 | _=> True))
       (fun w w'=> Below w.heap.size w w') (fun _ _ h=> h) (fun _ _ _ _ h _=> h) ?_ ?_
      ·refine cO ?_;refine ⟨?_,?_,?_,?_,?_,?_,?_,?_,?_,?_,?_,?_,?_,?_,?_,?_,?_,?_,?_,?_,?_,?_,?_,?_,?_,trivial⟩
       ·intro a w2 hB hF hd;exact aH <| dJ rfl (hF.same 15 rfl)
       ·intro a w2 hB hF hd;refine aH <| aP (Go.aZ.fI rfl (hd 0 _ rfl (aj rfl)) rfl) ?_;exact rfl
       ·intro a w2 hB hF hd;exact aH <| dJ rfl (hd 1 _ rfl (aj rfl))
       ·intro a w2 hB hF hd;rw [if_neg (by rw [bT rfl rfl (hd 2 _ rfl (aj rfl))];decide)];exact rfl
       ·intro a w2 hB hF hd;rw [if_neg (by rw [bT rfl rfl (hd 2 _ rfl (aj rfl))];decide)];exact rfl
       ·intro a w2 hB hF hd;rw [if_neg (by rw [bT rfl rfl (hd 2 _ rfl (aj rfl))];decide)];exact rfl
       ·intro a w2 hB hF hd;exact aH <| aP (eZ rfl (hd 2 _ rfl (aj rfl))) (rfl)
       ·intro a w2 hB hF hd;exact aH <| dJ rfl (hd 6 _ rfl (aj rfl))
       ·intro a w2 hB hF hd;refine aK (aL rfl rfl (hd 7 _ rfl (aj rfl)) rfl) ?_;refine aP (aW (m:=0) (k:=0) rfl (hF.same 2 rfl) (by kernel_rfl)) ?_;exact rfl
       ·intro a w2 hB hF hd;refine aK (aL rfl rfl (hd 7 _ rfl (aj rfl)) rfl) ?_;exact aP (qc rfl (hd 8 _ rfl (aj rfl)) Tryz.underlying4 ((hB.cell (p:=⟨x2,0,none⟩) akw.out).trans HW7.out.2)) rfl
       ·intro a w2 hB hF hd;refine aK (aL rfl rfl (hd 7 _ rfl (aj rfl)) rfl) ?_;exact dJ rfl (hd 9 _ rfl (aj rfl))
       ·intro a w2 hB hF hd;refine aK (aL rfl rfl (hd 10 _ rfl (aj rfl)) rfl) ?_;exact dJ rfl (hF.same 6 rfl)
       ·intro a w2 hB hF hd;refine aK (aL rfl rfl (hd 10 _ rfl (aj rfl)) rfl) ?_;exact dJ rfl (hF.same 11 rfl)
       ·intro a w2 hB hF hd;refine aK (aL rfl rfl (hd 10 _ rfl (aj rfl)) rfl) ?_;exact aP (bQ (i:=rd) (sz:=3) rfl (hd 11 _ rfl (aj rfl)) (hd 12 _ rfl (aj rfl)) Tryz.underlying57 Tryz.sizePs HLD.out) rfl
       ·intro a w2 hB hF hd;refine aK (aL rfl rfl (hd 10 _ rfl (aj rfl)) rfl) ?_;exact aP (aW (m:=0) (k:=1) rfl (hd 13 _ rfl (aj rfl)) (by kernel_rfl)) rfl
       ·intro a w2 hB hF hd;refine aK (aL rfl rfl (hd 10 _ rfl (aj rfl)) rfl) ?_;exact aP (bV rfl (hd 14 _ rfl (aj rfl)) jI ((hB.cell (p:=⟨gr,rd * 3+1,none⟩) Qz.out).trans HR1.out)) rfl
       ·intro a w2 hB hF hd;refine aK (aL rfl rfl (hd 10 _ rfl (aj rfl)) rfl) ?_;exact dJ rfl (hF.same 6 rfl)
       ·intro a w2 hB hF hd;refine aK (aL rfl rfl (hd 10 _ rfl (aj rfl)) rfl) ?_;exact dJ rfl (hF.same 9 rfl)
       ·intro a w2 hB hF hd;refine aK (aL rfl rfl (hd 10 _ rfl (aj rfl)) rfl) ?_;exact aP (bQ (i:=ra) (sz:=3) rfl (hd 16 _ rfl (aj rfl)) (hd 17 _ rfl (aj rfl)) Tryz.underlying57 Tryz.sizePs NM.out) rfl
       ·intro a w2 hB hF hd;refine aK (aL rfl rfl (hd 10 _ rfl (aj rfl)) rfl) ?_;exact aP (aW (m:=0) (k:=1) rfl (hd 18 _ rfl (aj rfl)) (by kernel_rfl)) rfl
       ·intro a w2 hB hF hd;refine aK (aL rfl rfl (hd 10 _ rfl (aj rfl)) rfl) ?_;exact aP (bV rfl (hd 19 _ rfl (aj rfl)) jI ((hB.cell (p:=⟨gr,ra * 3+1,none⟩) Qz.out).trans HR2.out)) rfl
       ·intro a w2 hB hF hd;refine aK (aL rfl rfl (hd 10 _ rfl (aj rfl)) rfl) ?_;refine aC _ _ _ rfl Tryz.call19 _ (args2 (hd 15 _ rfl (aj rfl)) (hd 20 _ rfl (aj rfl))) (by simp) ((HSM.out w2 hB).mono ?_);rintro e w3 ⟨rfl,hb⟩;exact ⟨_,rfl,rfl,hb⟩
       ·intro a w2 hB hF hd;refine aK (aL rfl rfl (hd 7 _ rfl (aj rfl)) rfl) ?_;exact aP (eZ rfl (hd 10 _ rfl (aj rfl))) ((hd 21 _ rfl (aj rfl)))
       ·intro a w2 hB hF hd;exact aH <| aP (eZ rfl (hd 7 _ rfl (aj rfl))) ((hd 22 _ rfl (aj rfl)))
       ·intro a w2 hB hF hd;exact aH <| mH rfl (hd 23 _ rfl (aj rfl))
      ·intro a w8 hB hF hS;have ha:=aI rfl rfl hF [_,_,_,_,_,_,_,_,_,_,_,_,_,_,_,_,_,_,_,_,_,_,_,_,_] rfl ⟨hS 0 _ rfl,hS 1 _ rfl,hS 2 _ rfl,hS 3 _ rfl,hS 4 _ rfl,hS 5 _ rfl,hS 6 _ rfl,hS 7 _ rfl,hS 8 _ rfl,hS 9 _ rfl,hS 10 _ rfl,hS 11 _ rfl,hS 12 _ rfl,hS 13 _ rfl,hS 14 _ rfl,hS 15 _ rfl,hS 16 _ rfl,hS 17 _ rfl,hS 18 _ rfl,hS 19 _ rfl,hS 20 _ rfl,hS 21 _ rfl,hS 22 _ rfl,hS 23 _ rfl,hS 24 _ rfl,trivial⟩;simp only [puts,Act.put,dQ,dR,dS] at ha;subst ha;clear hS hF;go_wp2;go_ret;exact ⟨rfl,HW7.out.1.trans (hB.mono HW7.out.1.size)⟩
theorem zW (w:World) (y:Bool) (sd:Nat->Int) (hs:∀i,i<32->(Lit.int .u8 (sd i)).wf=true) (g:Nat->Int) (hg:∀i,i<3->(Lit.int .u8 (g i)).wf=true):
  Calls Tryz.prog 6 #[Qr y sd,.agg (arr .u8 3 g)] w fun e w'=> e=.returned (.bool true)/\Below w.heap.size w w':=by
 have hb:∀i,i<3->0<=g i:=fun i hi=> by have:=bounds_u8 (hg i hi);omega
 rw [show arr .u8 3 g=arr .u8 3 (fun i=> ((g i).toNat:Int)) from gJ fun i hi=> by rw [Int.toNat_of_nonneg (hb i hi)]];exact zV w y sd (fun i hi=> by have:=bounds_u8 (hs i hi);omega) _
end Go.Proofs.YtpcjekgfnfjbpaaGreat
