/- Part 54 of EscrowComes; conditions: in each theorem. -/
import Derived.Test.YtpcjekgfnfjbpaaGreatPkEC51
import Derived.Test.YtpcjekgfnfjbpaaGreatPkEC52
import Derived.Test.YtpcjekgfnfjbpaaGreatPkEC53
set_option linter.unusedVariables false
set_option linter.unusedSimpArgs false
set_option maxRecDepth 100000
set_option maxHeartbeats 12800000
namespace Go.bI
open Go.RowKit
section
variable {D : List qG} {nm me x : ByteArray} {s : List ByteArray} {L : List (ByteArray × ByteArray)}
def wJ (d:qG):ByteArray × ByteArray:=(d.ta,d.fr)
def Ny (nm:ByteArray) (s:List ByteArray) (d:qG):List ByteArray:=if d.ta=nm then addN s d.fr else s
def yO (D:List qG) (nm:ByteArray) (s:List ByteArray):Nat->List ByteArray
 | 0=>s
 | k+1=>match D[k]? with
  | some d=>Ny nm (yO D nm s k) d
  | none=>yO D nm s k
theorem Wo (i:Int) (l:List ByteArray) (s:List ByteArray × List Int):(l.foldl (vis i) s).1=l.foldl addN s.1:=by
 induction l generalizing s with
 | nil=>rfl
 | cons a l ih=>
  rw[List.foldl_cons,List.foldl_cons,ih]
  congr 1
  unfold vis addN
  split<;> rfl
theorem Lr:∀(l:List ByteArray) (s:List ByteArray),x ∈ l.foldl addN s ↔ x ∈ s\/x ∈ l
 | [],s=>by simp
 | a::l,s=>by
  rw[List.foldl_cons,Lr l,lI,List.mem_cons]
  constructor
  ·rintro((h | h) | h)
   ·exact .inl h
   ·exact .inr (.inl h)
   ·exact .inr (.inr h)
  ·rintro(h | h | h)
   ·exact .inl (.inl h)
   ·exact .inl (.inr h)
   ·exact .inr h
theorem RV (h:x ∈ s):addN s x=s:=if_pos h
theorem Gy (E:List (ByteArray × ByteArray)) (e:ByteArray × ByteArray) (x:ByteArray):tgt (E++ [e]) x=tgt E x++if e.1=x then [e.2] else [] :=by
 rw[JL]
 split
 ·rfl
 ·rw[List.append_nil]
theorem Tx (x:ByteArray) (s:List ByteArray) (n:Nat):∀L:List (ByteArray × ByteArray),L.length=n->(tgt (je L) x).foldl addN s=(tgt L x).foldl addN s:=by
 induction n with
 | zero=>intro L h;rw[List.length_eq_zero_iff.1 h];rfl
 | succ n ih=>
  intro L h;obtain⟨M,e,rfl⟩:∃M e,L=M++ [e] :=by
   rcases List.eq_nil_or_concat L with h' | ⟨M,e,h'⟩
   ·rw[h'] at h;cases h
   ·exact⟨M,e,by rw[h',List.concat_eq_append]⟩
  have hM:M.length=n:=by rw[List.length_append] at h;simpa using h
  rw[wC,Gy,List.foldl_append,←ih M hM];unfold Qk;by_cases he:e ∈ je M
  ·rw[if_pos he];by_cases hx:e.1=x
   ·rw[if_pos hx];exact(RV ((Lr _ _).2 (.inr (uM.2 (by rw[<-hx];exact he))))).symm
   ·rw[if_neg hx];rfl
  ·rw[if_neg he,Gy,List.foldl_append]
theorem JA (D:List qG) (nm:ByteArray) (s:List ByteArray):∀k,k<=D.length->yO D nm s k=(tgt ((D.take k).map wJ) nm).foldl addN s
 | 0,_=>rfl
 | k+1,hk=>by
  have hd:D[k]? =some D[k] :=kP aH;have e:yO D nm s (k+1)=Ny nm (yO D nm s k) D[k] :=by
   show (match D[k]? with | some d=>Ny nm (yO D nm s k) d | none=>yO D nm s k)= _;rw[hd]
  rw[e,JA D nm s k aH,List.take_add_one,hd,Option.toList_some,List.map_append,List.map_singleton,Gy,List.foldl_append];unfold Ny;by_cases h:(D[k]).ta=nm
  ·rw[if_pos h,if_pos (show (wJ D[k]).1=nm from h)];rfl
  ·rw[if_neg h,if_neg (show ¬ (wJ D[k]).1=nm from h)];rfl
theorem Qy {i:Nat} (h:(gK (je (D.map wJ)) [me] i).1[i]? =some nm):yO D nm (gK (je (D.map wJ)) [me] i).1 D.length=(gK (je (D.map wJ)) [me] (i+1)).1:=by
 rw[JA D nm _ D.length (bH _),List.take_length,yS h,Wo,Tx nm _ _ _ rfl]
theorem AY (D:List qG) (nm:ByteArray) (s:List ByteArray):∀k,s <+:yO D nm s k
 | 0=>List.prefix_refl _
 | k+1=>by
  show s <+:(match D[k]? with | some d=>Ny nm (yO D nm s k) d | none=>yO D nm s k)
  split
  ·unfold Ny
   split
   ·exact(AY D nm s k).trans (um _ _)
   ·exact AY D nm s k
  ·exact AY D nm s k
end
end Go.bI
namespace Go.Proofs.YtpcjekgfnfjbpaaGreat
open Go.RowKit Go.bI Go.ChangeShapes Go.Maps
attribute [local go_sem ↓] Go.wp_at_zero Go.wp_at_succ
noncomputable def rZ (f:Nat->Int):Nat->Int:=dg 256 (mulN (sm 256 f 32) 9)
noncomputable def vW (f:Nat->Int):Nat->Int:=dg 256 (sdU (sm 256 f 32))
theorem afI (f:Nat->Int) (i:Nat):0<=rZ f i/\rZ f i<256:=bR aM _ _
theorem aeX (f:Nat->Int) (i:Nat):0<=vW f i/\vW f i<256:=bR aM _ _
theorem Dz {f:Nat->Int} {m:Nat} (hf:∀i,i<m->0<=f i/\f i<256):arr .u8 m f=arr .u8 m (dg 256 (sm 256 f m)):=iQ fun i hi=>(Af aM hf i hi).symm
theorem Xq (f:Nat->Int) (hf:∀i,i<32->0<=f i/\f i<256) (w:World):Calls Tryz.prog 90 #[.agg (arr .u8 32 f)] w fun e w'=>e=.returned (.agg (arr .u8 32 (rZ f)))/\Below w.heap.size w w':=by
 rw[Dz hf];exact rJ _ w
theorem Wq (f:Nat->Int) (hf:∀i,i<32->0<=f i/\f i<256) (w:World):Calls Tryz.prog 92 #[.agg (arr .u8 32 f)] w fun e w'=>e=.returned (.agg (arr .u8 32 (vW f)))/\Below w.heap.size w w':=by
 rw[Dz hf];exact GN _ w
section
variable {B : Nat} {w w' w1 w2 w3 : World} {p q : Nat} {F F' G G' : Nat -> Prop} {sd : Nat -> Int} {n : Nat} {v u v' : Value} {l l' : List Int} {X X' : Su} {S : TS}
theorem En (hl:l.length=32) (ho:okB l) (h:Rd .u8 w v l.length (bf l)):Calls Tryz.prog 89 #[v,.func (.func 90) #[] #[]] w fun e w'=> ∃u,e=.returned (.tuple #[u,.int .i64 0])/\Rd .u8 w' u 32 (rZ (bf l))/\Below w.heap.size w w':=by
 rw[hl] at h;have HK:=ay (uE h);have HC:=ay (fun w=>Xq (bf l) (fun i hi=>ho.at i aH) w);obtain⟨a,c,rfl,h1,h2,_,h4⟩:=h;obtain⟨D,hD⟩:∃D,D=rZ (bf l):=⟨_,rfl⟩
 rw[<-hD] at HC ⊢;clear hD h4 hl ho
 go_enter Tryz.func89,Tryz.ntmps89
 go_wp2_with fail;refine HK.out.mono ?_;rintro e w1 ⟨rfl,b1⟩;have B1:=ay b1;clear b1;obtain⟨f,hf⟩:∃f,f=bf l:=⟨_,rfl⟩
 rw[<-hf] at HC ⊢;clear hf;go_upto_region 2 with(refine aL rfl 22 _ _ rfl .u8 w1.heap.size 32 (fun _=>0) f fZ rfl rfl (cB rfl (by rfl)) ?_);refine aJ (fun w2=>aK .u8 w2 w1.heap.size 32 f/\Below w.heap.size w w2) ⟨(show aK .u8 (w1.alloc (.cells (arr .u8 32 (fun _=>0)) 22)) w1.heap.size 32 (fun _=>0) from cB rfl rfl).setRow 32 f,aB (B1.out.alloc B1.out.size _) B1.out.size _⟩ ?_;rintro w2 ⟨h2,b2⟩;have H2:=ay h2;have B2:=ay b2;clear h2 b2;go_wp2_with (refine aZ rfl 22 _ rfl .u8 w1.heap.size 32 f 5 iL fZ rfl H2.out ?_);refine(HC.out _).mono ?_;rintro e w3 ⟨rfl,b3⟩;have B3:=ay (B2.out.trans (b3.mono B2.out.size));clear b3;go_upto_region 5 with(refine aL rfl 22 _ _ rfl .u8 w3.heap.size 32 (fun _=>0) D fZ rfl rfl (cB rfl (by rfl)) ?_);refine aJ (fun w4=>aK .u8 w4 w3.heap.size 32 D/\Below w.heap.size w w4) ⟨(show aK .u8 (w3.alloc (.cells (arr .u8 32 (fun _=>0)) 22)) w3.heap.size 32 (fun _=>0) from cB rfl rfl).setRow 32 D,aB (B3.out.alloc B3.out.size _) B3.out.size _⟩ ?_;rintro w4 ⟨h4,b4⟩;have HR:=ay (h4.rd aM);have B4:=ay b4;clear h4 b4;go_wp2;go_ret2;exact⟨_,rfl,HR.out,B4.out⟩
theorem Ao (hl:l.length≠32) (h:Rd .u8 w v l.length (bf l)):Calls Tryz.prog 89 #[v,.func (.func 90) #[] #[]] w fun e w'=>e=.returned (.tuple #[.slice none 0 0,.int .i64 11])/\Below w.heap.size w w':=by
 have HK:=ay (xk h hl);obtain⟨a,c,rfl,h1,h2,_,h4⟩:=h;clear h4 hl
 go_enter Tryz.func89,Tryz.ntmps89
 go_wp2_with fail;refine HK.out.mono ?_;rintro e w1 ⟨rfl,b1⟩;have B1:=ay b1;clear b1;go_upto_region 2 with(refine aL rfl 22 _ _ rfl .u8 w1.heap.size 32 (fun _=>0) (fun _=>0) fZ rfl rfl (cB rfl (by rfl)) ?_);refine aJ (fun w2=>Below w.heap.size w w2) (aB (B1.out.alloc B1.out.size _) B1.out.size _) ?_;rintro w2 b2;have B2:=ay b2;clear b2;go_wp2;go_ret2;exact⟨rfl,B2.out⟩
theorem Ke (h:uW B w p F (.by sd n)) (hb:eG F w v l):Calls Tryz.prog 33 #[.pointer (some ⟨p,0,none⟩),v] w fun e w'=> ∃u,e=.returned (.tuple #[u,.int .i64 (EA rZ sd n l).2.1])/\VR B w p F u (EA rZ sd n l) w':=by
 have HQ:=ay h;have HW:=ay (gF h.1.r);obtain⟨R,hR⟩:∃x,x=EA rZ sd n l:=⟨_,rfl⟩
 rw[<-hR];have HR:=ay hR;by_cases hl:l.length=32
 ·have HC:=ay (En hl hb.ok hb.rd);have HE:Hid (R=(qE 32 (rZ (bf l)),0,.by sd n)):=ay (by rw[HR.out];exact if_pos hl);obtain⟨av,cv,rfl,_⟩:=hb.rd;clear hR h hb hl
  go_enter Tryz.func33,Tryz.ntmps33
  go_wp2_with fail;refine HW.out.mono ?_;rintro e w1 ⟨rfl,rfl⟩;go_wp2_with fail;refine HC.out.mono ?_;rintro e w2 ⟨u,rfl,hr,b2⟩;have HD:=ay (GK HQ.out (HQ.out.1.below b2) (lg.of_below b2 _) hr (fun i _=>afI (bf l) i) 0);clear hr b2;go_wp2;go_ret2;rw[HE.out];exact⟨u,rfl,HD.out⟩
 ·have HC:=ay (Ao hl hb.rd);have HE:Hid (R=([],11,.by sd n)):=ay (by rw[HR.out];exact if_neg hl);obtain⟨av,cv,rfl,_⟩:=hb.rd;clear hR h hb hl
  go_enter Tryz.func33,Tryz.ntmps33
  go_wp2_with fail;refine HW.out.mono ?_;rintro e w1 ⟨rfl,rfl⟩;go_wp2_with fail;refine HC.out.mono ?_;rintro e w2 ⟨rfl,b2⟩;have HD:=ay (wZ HQ.out b2 11);clear b2;go_wp2;go_ret2;rw[HE.out];exact⟨_,rfl,HD.out⟩
theorem Am (hl:l.length=32) (ho:okB l) (h:Rd .u8 w v l.length (bf l)):Calls Tryz.prog 89 #[v,.func (.func 92) #[] #[]] w fun e w'=> ∃u,e=.returned (.tuple #[u,.int .i64 0])/\Rd .u8 w' u 32 (vW (bf l))/\Below w.heap.size w w':=by
 rw[hl] at h;have HK:=ay (uE h);have HC:=ay (fun w=>Wq (bf l) (fun i hi=>ho.at i aH) w);obtain⟨a,c,rfl,h1,h2,_,h4⟩:=h;obtain⟨D,hD⟩:∃D,D=vW (bf l):=⟨_,rfl⟩
 rw[<-hD] at HC ⊢;clear hD h4 hl ho
 go_enter Tryz.func89,Tryz.ntmps89
 go_wp2_with fail;refine HK.out.mono ?_;rintro e w1 ⟨rfl,b1⟩;have B1:=ay b1;clear b1;obtain⟨f,hf⟩:∃f,f=bf l:=⟨_,rfl⟩
 rw[<-hf] at HC ⊢;clear hf;go_upto_region 2 with(refine aL rfl 22 _ _ rfl .u8 w1.heap.size 32 (fun _=>0) f fZ rfl rfl (cB rfl (by rfl)) ?_);refine aJ (fun w2=>aK .u8 w2 w1.heap.size 32 f/\Below w.heap.size w w2) ⟨(show aK .u8 (w1.alloc (.cells (arr .u8 32 (fun _=>0)) 22)) w1.heap.size 32 (fun _=>0) from cB rfl rfl).setRow 32 f,aB (B1.out.alloc B1.out.size _) B1.out.size _⟩ ?_;rintro w2 ⟨h2,b2⟩;have H2:=ay h2;have B2:=ay b2;clear h2 b2;go_wp2_with (refine aZ rfl 22 _ rfl .u8 w1.heap.size 32 f 5 iL fZ rfl H2.out ?_);refine(HC.out _).mono ?_;rintro e w3 ⟨rfl,b3⟩;have B3:=ay (B2.out.trans (b3.mono B2.out.size));clear b3;go_upto_region 5 with(refine aL rfl 22 _ _ rfl .u8 w3.heap.size 32 (fun _=>0) D fZ rfl rfl (cB rfl (by rfl)) ?_);refine aJ (fun w4=>aK .u8 w4 w3.heap.size 32 D/\Below w.heap.size w w4) ⟨(show aK .u8 (w3.alloc (.cells (arr .u8 32 (fun _=>0)) 22)) w3.heap.size 32 (fun _=>0) from cB rfl rfl).setRow 32 D,aB (B3.out.alloc B3.out.size _) B3.out.size _⟩ ?_;rintro w4 ⟨h4,b4⟩;have HR:=ay (h4.rd aM);have B4:=ay b4;clear h4 b4;go_wp2;go_ret2;exact⟨_,rfl,HR.out,B4.out⟩
theorem wY (hl:l.length≠32) (h:Rd .u8 w v l.length (bf l)):Calls Tryz.prog 89 #[v,.func (.func 92) #[] #[]] w fun e w'=>e=.returned (.tuple #[.slice none 0 0,.int .i64 11])/\Below w.heap.size w w':=by
 have HK:=ay (xk h hl);obtain⟨a,c,rfl,h1,h2,_,h4⟩:=h;clear h4 hl
 go_enter Tryz.func89,Tryz.ntmps89
 go_wp2_with fail;refine HK.out.mono ?_;rintro e w1 ⟨rfl,b1⟩;have B1:=ay b1;clear b1;go_upto_region 2 with(refine aL rfl 22 _ _ rfl .u8 w1.heap.size 32 (fun _=>0) (fun _=>0) fZ rfl rfl (cB rfl (by rfl)) ?_);refine aJ (fun w2=>Below w.heap.size w w2) (aB (B1.out.alloc B1.out.size _) B1.out.size _) ?_;rintro w2 b2;have B2:=ay b2;clear b2;go_wp2;go_ret2;exact⟨rfl,B2.out⟩
theorem Em (h:uW B w p F (.by sd n)) (hb:eG F w v l):Calls Tryz.prog 34 #[.pointer (some ⟨p,0,none⟩),v] w fun e w'=> ∃u,e=.returned (.tuple #[u,.int .i64 (EA vW sd n l).2.1])/\VR B w p F u (EA vW sd n l) w':=by
 have HQ:=ay h;have HW:=ay (gF h.1.r);obtain⟨R,hR⟩:∃x,x=EA vW sd n l:=⟨_,rfl⟩
 rw[<-hR];have HR:=ay hR;by_cases hl:l.length=32
 ·have HC:=ay (Am hl hb.ok hb.rd);have HE:Hid (R=(qE 32 (vW (bf l)),0,.by sd n)):=ay (by rw[HR.out];exact if_pos hl);obtain⟨av,cv,rfl,_⟩:=hb.rd;clear hR h hb hl
  go_enter Tryz.func34,Tryz.ntmps34
  go_wp2_with fail;refine HW.out.mono ?_;rintro e w1 ⟨rfl,rfl⟩;go_wp2_with fail;refine HC.out.mono ?_;rintro e w2 ⟨u,rfl,hr,b2⟩;have HD:=ay (GK HQ.out (HQ.out.1.below b2) (lg.of_below b2 _) hr (fun i _=>aeX (bf l) i) 0);clear hr b2;go_wp2;go_ret2;rw[HE.out];exact⟨u,rfl,HD.out⟩
 ·have HC:=ay (wY hl hb.rd);have HE:Hid (R=([],11,.by sd n)):=ay (by rw[HR.out];exact if_neg hl);obtain⟨av,cv,rfl,_⟩:=hb.rd;clear hR h hb hl
  go_enter Tryz.func34,Tryz.ntmps34
  go_wp2_with fail;refine HW.out.mono ?_;rintro e w1 ⟨rfl,rfl⟩;go_wp2_with fail;refine HC.out.mono ?_;rintro e w2 ⟨rfl,b2⟩;have HD:=ay (wZ HQ.out b2 11);clear b2;go_wp2;go_ret2;rw[HE.out];exact⟨_,rfl,HD.out⟩
end
noncomputable def vD (sd:Nat->Int) (n:Nat) (a b:List Int):UA:=
 if a.length=32 then
  if mulN (sm 256 (mh sd n) 32) (sm 256 (bf a) 32)=0 then ([],21,.by sd (n+1))
  else (qE (32+(b.length+16)) (nO (sm 256 (mh sd n) 32) (sm 256 (bf a) 32) b.length (bf b)),0,.by sd (n+1))
 else ([],11,.by sd n)
noncomputable def iV (a c:List Int):List Int × Int:=
 if a.length=32 then
  if c.length<48 then ([],10)
  else if rY (sm 256 (bf a) 32) (bf c)=0 then ([],21)
  else if vE (sm 256 (bf a) 32) (c.length - 48) (bf c)=true then (qE (c.length - 48) (NC (sm 256 (bf a) 32) (bf c)),0) else ([],20)
 else ([],11)
theorem JJ {F:Nat->Prop} {w w':World} {v:Value} {r:List Int} {e:Int} (h:∃u,v=.tuple #[u,.int .i64 e] /\eG F w u r) (hb:Below w.heap.size w w'):∃u,v=.tuple #[u,.int .i64 e] /\eG F w' u r:=by
 obtain⟨u,e,h⟩:=h;exact⟨u,e,h.below hb⟩
theorem Wm (S P:Int) (n:Nat) (f:Nat->Int) (i:Nat):0<=nO S P n f i/\nO S P n f i<256:=by
 unfold nO nN
 split
 ·exact bR aM _ _
 ·exact zQ _ _ _ _ _ _ _
section
variable {B : Nat} {w w' w1 w2 w3 : World} {p q : Nat} {F F' G G' : Nat -> Prop} {sd : Nat -> Int} {n : Nat} {v u v' : Value} {l l' : List Int} {X X' : Su} {S : TS}
theorem Kc (h:uW B w p F (.by sd n)) (hb:eG F w v l) (hb':eG F w v' l') (hl':l'.length<=400):Calls Tryz.prog 22 #[.pointer (some ⟨p,0,none⟩),v,v'] w fun e w'=> ∃u,e=.returned (.tuple #[u,.int .i64 (iV l l').2])/\eG F w' u (iV l l').1/\Below w.heap.size w w':=by
 have HW:=ay (gF h.1.r);have HNF:=ay h.2;obtain⟨R,hR⟩:∃x,x=iV l l':=⟨_,rfl⟩
 rw[<-hR];have HR:=ay hR;by_cases hl:l.length=32
 ·have hr1:=hb.rd;rw[hl] at hr1;have HK:=ay (uE hr1);obtain⟨K,hK⟩:∃K,K=bf l:=⟨_,rfl⟩
  have HBX:Hid (∀w1,Below w.heap.size w w1->Calls Tryz.prog 75 #[.agg (arr .u8 32 K),v'] w1 fun e w'=> ∃u,e=.returned (.tuple #[u,.int .i64 R.2])/\eG F w' u R.1/\Below w1.heap.size w1 w'):=ay fun w1 b1=>by
   rw[hK,Dz (fun i hi=>hb.ok.at i aH),HR.out];unfold iV;rw[if_pos hl];have hv:=hb'.rd.below b1;by_cases h48:l'.length<48
   ·rw[if_pos h48];refine(Dt _ v' _ _ w1 hv h48).mono ?_;rintro e w' ⟨rfl,b⟩;exact⟨_,rfl,eG.nil _ _,b⟩
   ·rw[if_neg h48];refine(Jb _ v' (l'.length - 48) l'.length aH _ w1 hv aH (fun i hi=>hb'.ok.at i hi)).mono ?_;rintro e w' ⟨u,er,rfl,⟨r1,r2⟩,b⟩;by_cases hx:rY (sm 256 (bf l) 32) (bf l')=0
    ·rw[if_pos hx];obtain⟨rfl,rfl⟩:=r1 hx;exact⟨_,rfl,eG.nil _ _,b⟩
    ·rw[if_neg hx];by_cases ho:vE (sm 256 (bf l) 32) (l'.length - 48) (bf l')=true
     ·rw[if_pos ho];obtain⟨rfl,hr⟩:=(r2 hx).2 ho;exact⟨_,rfl,eG.any hr (fun i _=>wE _ _ _ _ i) HNF.out,b⟩
     ·rw[if_neg ho];obtain⟨rfl,rfl⟩:=(r2 hx).1 (by simpa using ho);exact⟨_,rfl,eG.nil _ _,b⟩
  rw[<-hK] at HK;obtain⟨av,cv,rfl,_⟩:=hb.rd;obtain⟨av',cv',rfl,_⟩:=hb'.rd;clear hR h hb hb' hl hr1 hK HR hl'
  go_enter Tryz.func22,Tryz.ntmps22
  go_wp2_with fail;refine HW.out.mono ?_;rintro e w1 ⟨rfl,rfl⟩;go_wp2_with fail;refine HK.out.mono ?_;rintro e w2 ⟨rfl,b2⟩;have B2:=ay b2;clear b2;go_upto_region 4 with(refine aL rfl 22 _ _ rfl .u8 w2.heap.size 32 (fun _=>0) K fZ rfl rfl (cB rfl (by rfl)) ?_);refine aJ (fun w3=>aK .u8 w3 w2.heap.size 32 K/\Below w1.heap.size w1 w3) ⟨(show aK .u8 (w2.alloc (.cells (arr .u8 32 (fun _=>0)) 22)) w2.heap.size 32 (fun _=>0) from cB rfl rfl).setRow 32 K,aB (B2.out.alloc B2.out.size _) B2.out.size _⟩ ?_;rintro w3 ⟨h8,b3⟩;have H8:=ay h8;have B3:=ay b3;clear h8 b3;go_wp2_with (refine aZ rfl 22 _ rfl .u8 w2.heap.size 32 K 5 iL fZ rfl H8.out ?_);refine(HBX.out w3 B3.out).mono ?_;rintro e w4 ⟨u,rfl,hy,b4⟩;have HY:=ay hy;have B4:=ay (B3.out.trans (b4.mono B3.out.size));obtain⟨au,cu,rfl⟩:=hy.slice;clear hy b4;go_wp2;go_ret2;exact⟨_,rfl,HY.out,B4.out⟩
 ·have HK:=ay (xk hb.rd hl);have HE:Hid (R=([],11)):=ay (by rw[HR.out];exact if_neg hl);obtain⟨av,cv,rfl,_⟩:=hb.rd;obtain⟨av',cv',rfl,_⟩:=hb'.rd;clear hR h hb hb' hl
  go_enter Tryz.func22,Tryz.ntmps22
  go_wp2_with fail;refine HW.out.mono ?_;rintro e w1 ⟨rfl,rfl⟩;go_wp2_with fail;refine HK.out.mono ?_;rintro e w2 ⟨rfl,b2⟩;have B2:=ay b2;clear b2;go_upto_region 4 with(refine aL rfl 22 _ _ rfl .u8 w2.heap.size 32 (fun _=>0) (fun _=>0) fZ rfl rfl (cB rfl (by rfl)) ?_);refine aJ (fun w3=>Below w1.heap.size w1 w3) (aB (B2.out.alloc B2.out.size _) B2.out.size _) ?_;rintro w3 b3;have B3:=ay b3;clear b3;go_wp2;go_ret2;rw[HE.out];exact⟨_,rfl,eG.nil _ _,B3.out⟩
theorem SA (h:uW B w p F (.by sd n)) (hb:eG F w v l) (hb':eG F w v' l') (hn:n<=900) (hl':l'.length<=300):Calls Tryz.prog 13 #[.pointer (some ⟨p,0,none⟩),v,v'] w fun e w'=> ∃u,e=.returned (.tuple #[u,.int .i64 (vD sd n l l').2.1])/\VR B w p F u (vD sd n l l') w':=by
 have HQ:=ay h;have HW:=ay (gF h.1.r);have HNF:=ay h.2;obtain⟨R,hR⟩:∃x,x=vD sd n l l':=⟨_,rfl⟩
 rw[<-hR];have HR:=ay hR;by_cases hl:l.length=32
 ·have hr1:=hb.rd;rw[hl] at hr1;have HK:=ay (uE hr1);obtain⟨K,hK⟩:∃K,K=bf l:=⟨_,rfl⟩
  obtain⟨D,hD⟩:∃D,D=mh sd n:=⟨_,rfl⟩
  have HR2:Hid (R.2.2=.by sd (n+1)):=ay (by
   rw[HR.out];unfold vD;rw[if_pos hl]
   split<;> rfl)
  have HBX:Hid (∀w1,Rd .u8 w1 v' l'.length (bf l')->Calls Tryz.prog 65 #[.agg (arr .u8 32 D),.agg (arr .u8 32 K),v'] w1 fun e w'=> ∃u,e=.returned (.tuple #[u,.int .i64 R.2.1])/\eG F w' u R.1/\Below w1.heap.size w1 w'):=ay fun w1 hv=>by
   rw[hK,hD,Dz (fun i hi=>hb.ok.at i aH),Dz (f:=mh sd n) (fun i _=>IQ sd n i),HR.out];unfold vD;rw[if_pos hl];refine(Qa _ _ v' _ _ w1 hv hl').mono ?_;rintro e w' ⟨u,er,rfl,⟨r1,r2⟩,b⟩;by_cases hx:mulN (sm 256 (mh sd n) 32) (sm 256 (bf l) 32)=0
   ·rw[if_pos hx];obtain⟨rfl,rfl⟩:=r1 hx;exact⟨_,rfl,eG.nil _ _,b⟩
   ·rw[if_neg hx];obtain⟨rfl,hr⟩:=r2 hx;exact⟨_,rfl,eG.any hr (fun i _=>Wm _ _ _ _ i) HNF.out,b⟩
  have HDR:=ay (fun w h=>zP (w:=w) (B:=B) (p:=p) (sd:=sd) (n:=n) h aH);rw[<-hK] at HK;rw[<-hD] at HDR;have HV:=ay hb'.rd;have HPL:Hid (p<w.heap.size):=ay h.1.lt;obtain⟨av,cv,rfl,_⟩:=hb.rd;obtain⟨av2,cv2,rfl,_⟩:=hb'.rd;have amM:Hid (∀w1,Rd .u8 w1 (.slice av2 l'.length cv2) l'.length (bf l')->Calls Tryz.prog 65 #[.agg (arr .u8 32 D),.agg (arr .u8 32 K),.slice av2 l'.length cv2] w1 fun e w'=> ∃x,e=.returned x/\(∃u,x=.tuple #[u,.int .i64 R.2.1] /\eG F w' u R.1)/\Below w1.heap.size w1 w'):=ay fun w1 hv=>(HBX.out w1 hv).mono fun e w' ⟨u,h1,h2,h3⟩=>⟨_,h1,⟨u,rfl,h2⟩,h3⟩
  obtain⟨N2,Rx⟩:∃N,N=l'.length:=⟨_,rfl⟩
  rw[<-Rx] at amM HV ⊢;clear hR h hb hb' hl hr1 hK hD HR hl' hn HBX Rx
  go_enter Tryz.func13,Tryz.ntmps13
  go_wp2_with fail;refine HW.out.mono ?_;rintro e w1 ⟨rfl,rfl⟩;go_wp2_with fail;refine HK.out.mono ?_;rintro e w2 ⟨rfl,b2⟩;have B2:=ay b2;clear b2;go_upto_region 4 with(refine aL rfl 22 _ _ rfl .u8 w2.heap.size 32 (fun _=>0) K fZ rfl rfl (cB rfl (by rfl)) ?_);refine aJ (fun w3=>aK .u8 w3 w2.heap.size 32 K/\Below w1.heap.size w1 w3) ⟨(show aK .u8 (w2.alloc (.cells (arr .u8 32 (fun _=>0)) 22)) w2.heap.size 32 (fun _=>0) from cB rfl rfl).setRow 32 K,aB (B2.out.alloc B2.out.size _) B2.out.size _⟩ ?_;rintro w3 ⟨h8,b3⟩;have H8:=ay h8;have B3:=ay b3;have HP2:Hid (p<w2.heap.size):=ay (qZ HPL.out B2.out.size);clear h8 b3;obtain⟨x8,hx8⟩:∃x,x=w2.heap.size:=⟨_,rfl⟩
  rw[<-hx8] at H8 HP2 ⊢;clear hx8;go_upto_region 6 with(fail);have HQ3:Hid (Eb B w3 p sd n):=ay (HQ.out.1.below B3.out);have HNP:Hid (¬ (x8=p\/False)):=ay fun h=>h.elim (fun e=>by have:=HP2.out;omega) id;have HV3:=ay (HV.out.below B3.out)
  refine Hr (n:=37) 1 aQ aQ aQ aM aQ rfl
   (fun ii vv=>(match ii with | 0=>vv=.pointer (some ⟨p,0,none⟩) | 1=>vv=.agg (arr .u8 32 (D)) | 2=>vv=.agg (arr .u8 32 (K)) | 3=>vv=.slice av2 N2 cv2 | 6 | 8=>vv=.int .i64 (R.2.1) | _=>True)) (fun ii vv ww=>(ii=4->∃u,vv=.tuple #[u,.int .i64 R.2.1] /\eG F ww u R.1)/\(ii=5->eG F ww vv R.1)/\(ii=7->eG F ww vv R.1))
   (fun i v w w' h hE=>⟨fun e=>JJ (h.1 e) hE,fun e=>eG.below (h.2.1 e) hE,fun e=>eG.below (h.2.2 e) hE⟩)
   (fun ww=>Eb B ww p sd (n+1)/\lg p (fun _=>False) w3 ww) (fun _ _ h hb=>⟨h.1.below hb,h.2.trans (lg.of_below hb (fun _=>False)) fun _ h=>.inl h⟩) ?_ ?_ ?_
  ·refine dG ?_;refine⟨?_,(fun h=>absurd rfl h),?_,?_,?_,?_,?_,?_,?_,trivial⟩
   ·intro _ a w2 hB' hP hO hF hd;have hB:=hB' aQ;exact aN <| aG _ (.inl rfl) aR ⟨(hF.same 0 rfl),aP,aP,aP⟩
   ·intro _ a w2 hB' hP hO hF hd;rw[if_pos (dA rfl)];have pU:aK .u8 w2 x8 32 K:=hO.elim (fun hB=>H8.out.kept hB) (fun hp=>H8.out.gL hp.2.gL HNP.out);exact aW (GX rfl iL fZ (hF.same 8 rfl) pU) ⟨rfl,aP,aP,aP⟩
   ·intro _ a w2 hB' hP hO hF hd;exact aN <| aG _ (.inl rfl) aR ⟨(hF.same 2 rfl),aP,aP,aP⟩
   ·intro _ a w2 hB' hP hO hF hd;refine aN <| aI _ _ _ rfl Tryz.call65 _ (vR ((hd 1 _ rfl rfl).1) ((hd 2 _ rfl rfl).1) ((hd 3 _ rfl rfl).1)) aR ((amM.out w2 (HV3.out.Ah (hP aQ).2 fun _ _ _=>id)).mono ?_);rintro e w3 ⟨u,rfl,hr,hb⟩;exact⟨u,rfl,⟨trivial,fun _=>hr,aP,aP⟩,hb⟩
   ·intro _ a w2 hB' hP hO hF hd;rw[if_pos (dA rfl)];obtain⟨u_,II,Rq⟩:=(((hd 4 _ rfl rfl).2 aQ).1 rfl)
    exact aW (bU rfl II rfl) ⟨trivial,aP,fun _=>(Rq),aP⟩
   ·intro _ a w2 hB' hP hO hF hd;rw[if_pos (dA rfl)];obtain⟨u_,II,Rq⟩:=(((hd 4 _ rfl rfl).2 aQ).1 rfl)
    exact aW (bU rfl II rfl) ⟨rfl,aP,aP,aP⟩
   ·intro _ a w2 hB' hP hO hF hd;exact aN <| aG _ (.inr rfl) aR ⟨trivial,aP,aP,fun _=>(((hd 5 _ rfl rfl).2 aQ).2.1 rfl)⟩
   ·intro _ a w2 hB' hP hO hF hd;exact aN <| aG _ (.inr rfl) aR ⟨((hd 6 _ rfl rfl).1),aP,aP,aP⟩
  ·intro o ho a w2 hB hF hd;obtain rfl:=gJ ho;refine⟨by rw[dA rfl],?_⟩;refine wP 66 #[.tmp 22] _ rfl Tryz.call66 _ (args1 ((hd 0 _ rfl rfl).1)) aR ((HDR.out w2 (HQ3.out.below hB)).mono ?_);rintro e w4 ⟨rfl,h4,c4⟩;exact⟨_,rfl,⟨rfl,aP,aP,aP⟩,h4,(lg.of_below hB (fun _=>False)).trans c4 fun _ h=>.inl h⟩
  ·intro a w4 hP hF hS;obtain⟨x26,OY⟩:∃x,x=a.tmps.getD 26 undef:=⟨_,rfl⟩
   have P26:∃u,x26=.tuple #[u,.int .i64 R.2.1] /\eG F w4 u R.1:=by rw[OY];exact((hS 4 _ rfl).2 aQ).1 rfl
   obtain⟨x27,hx27⟩:∃x,x=a.tmps.getD 27 undef:=⟨_,rfl⟩
   have P27:eG F w4 x27 R.1:=by rw[hx27];exact((hS 5 _ rfl).2 aQ).2.1 rfl
   obtain⟨x6,hx6⟩:∃x,x=a.tmps.getD 6 undef:=⟨_,rfl⟩
   have P6:eG F w4 x6 R.1:=by rw[hx6];exact((hS 7 _ rfl).2 aQ).2.2 rfl
   have ha:=aO rfl rfl hF [_,_,_,_,x26,x27,_,x6,_] rfl ⟨(hS 0 _ rfl).1,(hS 1 _ rfl).1,(hS 2 _ rfl).1,(hS 3 _ rfl).1,OY.symm,hx27.symm,(hS 6 _ rfl).1,hx6.symm,(hS 8 _ rfl).1,trivial⟩;simp only[puts,Act.put,fB,fD,fF] at ha;subst ha;clear OY hx27 hx6;clear hS hF;have HY:=ay P6;have HD:Hid (VR B w1 p F x6 R w4):=ay (by
    refine⟨F,?_,HY.out,?_,fun b hb=>.inl hb⟩
    ·rw[HR2.out];exact⟨hP.1,HNF.out⟩
    ·refine(lg.of_below B3.out F).trans ⟨hP.2.gL.mono fun b _ hb=>hb.imp id fun h=>h.elim,fun b hb _=>hP.2.u8 b hb id⟩ fun b h=>.inl h)
   obtain⟨a6,c6,e6⟩:=HY.out.slice;subst e6;clear P6 P26 P27 hP;go_wp2;go_ret2;exact⟨_,rfl,HD.out⟩
 ·have HK:=ay (xk hb.rd hl);have HE:Hid (R=([],11,.by sd n)):=ay (by rw[HR.out];exact if_neg hl);obtain⟨av,cv,rfl,_⟩:=hb.rd;obtain⟨av',cv',rfl,_⟩:=hb'.rd;clear hR h hb hb' hl
  go_enter Tryz.func13,Tryz.ntmps13
  go_wp2_with fail;refine HW.out.mono ?_;rintro e w1 ⟨rfl,rfl⟩;go_wp2_with fail;refine HK.out.mono ?_;rintro e w2 ⟨rfl,b2⟩;have B2:=ay b2;clear b2;go_upto_region 4 with(refine aL rfl 22 _ _ rfl .u8 w2.heap.size 32 (fun _=>0) (fun _=>0) fZ rfl rfl (cB rfl (by rfl)) ?_);refine aJ (fun w3=>Below w1.heap.size w1 w3) (aB (B2.out.alloc B2.out.size _) B2.out.size _) ?_;rintro w3 b3;have B3:=ay b3;clear b3;go_wp2;go_ret2;rw[HE.out];exact⟨_,rfl,wZ HQ.out B3.out 11⟩
end
end Go.Proofs.YtpcjekgfnfjbpaaGreat
namespace Go.Proofs.YtpcjekgfnfjbpaaGreat
open Go.RowKit Go.bI Go.ChangeShapes Go.Maps
noncomputable def Su.pub:Su->List Int->UA
 | .by sd n,l=>EA rZ sd n l
 | .tm S,l=>((iB 2 S l).1,(iB 2 S l).2.1,.tm (iB 2 S l).2.2)
noncomputable def Su.ver:Su->List Int->UA
 | .by sd n,l=>EA vW sd n l
 | .tm S,l=>((iB 3 S l).1,(iB 3 S l).2.1,.tm (iB 3 S l).2.2)
noncomputable def Su.DZ:Su->List Int->List Int->List Int × Int
 | .by _ _,a,c=>iV a c
 | .tm S,a,c=>eF S a c
noncomputable def Su.rT:Su->List Int->List Int->UA
 | .by sd n,a,b=>vD sd n a b
 | .tm S,a,b=>((lQ 4 S a b).1,(lQ 4 S a b).2.1,.tm (lQ 4 S a b).2.2)
section
variable {B : Nat} {w w' : World} {p : Nat} {F : Nat -> Prop} {v u v' : Value} {l l' : List Int} {X : Su}
theorem GI (h:uW B w p F X) (hb:eG F w v l) (hn:X.size<=900):Calls Tryz.prog 33 #[.pointer (some ⟨p,0,none⟩),v] w fun e w'=> ∃u,e=.returned (.tuple #[u,.int .i64 (X.pub l).2.1])/\VR B w p F u (X.pub l) w':=by
 cases X with
 | «by» sd n=>exact Ke h hb
 | tm S=>exact(zO h hb hn).mono fun e w' ⟨u,h1,h2⟩=>⟨u,h1,h2.su⟩
theorem BS (h:uW B w p F X) (hb:eG F w v l) (hn:X.size<=900):Calls Tryz.prog 34 #[.pointer (some ⟨p,0,none⟩),v] w fun e w'=> ∃u,e=.returned (.tuple #[u,.int .i64 (X.ver l).2.1])/\VR B w p F u (X.ver l) w':=by
 cases X with
 | «by» sd n=>exact Em h hb
 | tm S=>exact(vF h hb hn).mono fun e w' ⟨u,h1,h2⟩=>⟨u,h1,h2.su⟩
theorem GH (h:uW B w p F X) (hb:eG F w v l) (hb':eG F w v' l') (hl':l'.length<=400) (hn:X.size<=900):Calls Tryz.prog 22 #[.pointer (some ⟨p,0,none⟩),v,v'] w fun e w'=> ∃u,e=.returned (.tuple #[u,.int .i64 (X.DZ l l').2])/\eG F w' u (X.DZ l l').1/\Below w.heap.size w w':=by
 cases X with
 | «by» sd n=>exact Kc h hb hb' hl'
 | tm S=>exact zM h hb hb' (iw hn aM)
theorem NP (h:uW B w p F X) (hb:eG F w v l) (hb':eG F w v' l') (hl':l'.length<=300) (hn:X.size<=900):Calls Tryz.prog 13 #[.pointer (some ⟨p,0,none⟩),v,v'] w fun e w'=> ∃u,e=.returned (.tuple #[u,.int .i64 (X.rT l l').2.1])/\VR B w p F u (X.rT l l') w':=by
 cases X with
 | «by» sd n=>exact SA h hb hb' hn hl'
 | tm S=>exact(Fq h hb hb' hn).mono fun e w' ⟨u,h1,h2⟩=>⟨u,h1,h2.su⟩
end
theorem abO (a:List Int):sm 256 (bf (qE 32 (rZ (bf a)))) 32=mulN (sm 256 (bf a) 32) 9:=by
 rw[jA (fun i hi=>Dx hi)];unfold rZ;rw[qH aM,Nb (Bh _ 9).1 (Bh _ 9).2]
theorem IZ (sd:Nat->Int) (m:Nat) {a b:List Int} (ha:a.length=32) (hb:okB b):∃c,vD sd m (qE 32 (rZ (bf a))) b=(c,0,.by sd (m+1))/\iV a c=(b,0)/\c.length=b.length+48/\okB c:=by
 obtain⟨S,hS⟩:∃S,S=sm 256 (mh sd m) 32:=⟨_,rfl⟩
 obtain⟨T,hT⟩:∃T,T=sm 256 (bf a) 32:=⟨_,rfl⟩
 obtain⟨n,hn⟩:∃n,n=b.length:=⟨_,rfl⟩
 have gW:mulN S (mulN T 9)≠0:=SK S T;obtain⟨c,hc⟩:∃c,c=qE (32+(n+16)) (nO S (mulN T 9) n (bf b)):=⟨_,rfl⟩
 refine⟨c,?_,?_,by rw[hc,mH];omega,hc▸Bf fun i _=>abf _ _ _ _ i⟩
 ·unfold vD;rw[if_pos (mH _ _),abO,←hS,←hT,←hn,if_neg gW,←hc]
 ·have hci:∀i,i<32+(n+16)->bf c i=nO S (mulN T 9) n (bf b) i:=fun i hi=>by rw[hc];exact Dx hi
  have e1:wW (bf c)=mulN S 9:=by
   rw[<-Sq S (mulN T 9) n (bf b)];exact jA fun i hi=>hci i aH
  have eX:rY T (bf c)=mulN S (mulN T 9):=by unfold rY;rw[e1,afZ]
  have eK:NA T (bf c)=ug (mulN S (mulN T 9)) (mulN S 9) (mulN T 9):=by unfold NA;rw[eX,e1]
  have hhi:∀i,i<n+16->bf c (32+i)=lC (ug (mulN S (mulN T 9)) (mulN S 9) (mulN T 9)) CG 0 CG n (bf b) i:=fun i hi=>(hci (32+i) aH).trans (congrFun (abe S (mulN T 9) n (bf b)) i);have eO:vE T n (bf c)=true:=by
   unfold vE;rw[eK,KX hhi];exact Oz
  have eH:qE n (NC T (bf c))=b:=by
   conv=>rhs;rw[<-Yl b]
   rw[<-hn];refine TR fun i hi=>?_;unfold NC;rw[eK];have:=Tv (key:=ug (mulN S (mulN T 9)) (mulN S 9) (mulN T 9)) (nonce:=CG) (nb:=0) (fb:=CG) (n:=n) (f:=bf b) (fun i hi=>hb.at i aH) i hi;rw[<-this];show xo _ (bf c (32+i))=xo _ (lC _ _ _ _ _ _ i);rw[hhi i aH]
  unfold iV;rw[if_pos ha,hc,mH,←hc,if_neg aH,←hT,if_neg (by rw[eX];exact gW),show 32+(n+16) - 48=n by omega,if_pos eO,eH]
section
variable {B : Nat} {w w' : World} {p : Nat} {F : Nat -> Prop} {v u : Value} {l l' : List Int} {X : Su}
theorem FD (g:(Nat->Int)->Nat->Int) (sd:Nat->Int) (n:Nat) (l:List Int):(EA g sd n l).2.2.size=n:=by unfold EA;split<;> rfl
theorem Su.Xp (X:Su) (l:List Int):(X.pub l).2.2.size<=X.size+1:=by
 cases X with
 | «by» sd n=>exact iw (Nat.le_of_eq (FD _ sd n l)) (Nat.le_succ _)
 | tm S=>exact xL 2 S l
theorem Su.Wp (X:Su) (l:List Int):(X.ver l).2.2.size<=X.size+1:=by
 cases X with
 | «by» sd n=>exact iw (Nat.le_of_eq (FD _ sd n l)) (Nat.le_succ _)
 | tm S=>exact xL 3 S l
theorem Su.Uw (X:Su) (s:Int):(X.draw s).2.2.size<=X.size+1:=by
 cases X with
 | «by» sd n=>
  show (if isSort s=true then (qE 32 (mh sd n),(0:Int),Su.by sd (n+1)) else ([],2,.by sd n)).2.2.size<=n+1
  split
  ·exact bH _
  ·exact Nat.le_succ _
 | tm S=>exact FX S s
theorem Su.Wj (X:Su) (a b:List Int):(X.rT a b).2.2.size<=X.size+1:=by
 cases X with
 | «by» sd n=>
  show (vD sd n a b).2.2.size<=n+1;unfold vD
  split
  ·split<;> exact bH _
  ·exact Nat.le_succ _
 | tm S=>exact JI 4 S a b
noncomputable def bM (B:Nat):kS B where
 σ:=Su
 M:=fun w p F X=>uW B w p F X
 sz:=Su.size
 pub:=Su.pub
 ver:=Su.ver
 DZ:=Su.DZ
 below:=fun h hb=>uW.below h hb
 lt:=fun h hb=>uW.lt h hb
 hi:=fun h hb=>uW.hi h hb
 keep:=fun h hc hp hF=>uW.keep h hc hp hF
 szP:=Su.Xp
 szV:=Su.Wp
 ado:=fun h hb hl=>GI h hb hl
 adn:=fun h hb hl=>BS h hb hl
 ahL:=fun h hb hb' hl' hl=>GH h hb hb' hl' hl
 mg:=Su.draw
 rT:=Su.rT
 szD:=Su.Uw
 szW:=Su.Wj
 ahM:=fun s h hl=>NQ h s hl
 ahK:=fun h hb hb' hl' hl=>NP h hb hb' hl' hl
end
noncomputable def pY (sd:Nat->Int) (i:Nat):List Int:=qE 32 (mh sd i)
noncomputable def Xr (sd:Nat->Int) (i:Nat):mD:=⟨dW i,qE 32 (rZ (bf (pY sd i))),qE 32 (vW (bf (pY sd i)))⟩
noncomputable def roB (sd:Nat->Int):Nat->List mD
 | 0=> []
 | n+1=>roB sd n++ [Xr sd n]
noncomputable def ssB (sd:Nat->Int):Nat->List (List Int)
 | 0=> []
 | n+1=>ssB sd n++ [pY sd n]
section
variable (B : Nat) (sd : Nat -> Int)
theorem nQ (i:Nat):(pY sd i).length=32:=mH _ _
theorem ZV (n:Nat):(bM B).mg (.by sd n) 1=(pY sd n,0,.by sd (n+1)):=by
 show (if isSort 1=true then (qE 32 (mh sd n),(0:Int),Su.by sd (n+1)) else ([],2,.by sd n))= _;rw[if_pos aM]
 rfl
theorem Ja (n:Nat) {l:List Int} (h:l.length=32):(bM B).pub (.by sd n) l=(qE 32 (rZ (bf l)),0,.by sd n):=if_pos h
theorem PY (n:Nat) {l:List Int} (h:l.length=32):(bM B).ver (.by sd n) l=(qE 32 (vW (bf l)),0,.by sd n):=if_pos h
theorem Wz:∀n,(bM B).usr (.by sd 0) n=(.by sd n,roB sd n,ssB sd n)
 | 0=>rfl
 | n+1=>by
  have h0:=Wz n;have e1:(bM B).mg ((bM B).usr (.by sd 0) n).1 1=(pY sd n,0,.by sd (n+1)):=by rw[h0];exact ZV B sd n
  have e2:=Ja B sd (n+1) (nQ sd n);have e3:=PY B sd (n+1) (nQ sd n);show (((bM B).ver ((bM B).pub ((bM B).mg ((bM B).usr (.by sd 0) n).1 1).2.2 ((bM B).mg ((bM B).usr (.by sd 0) n).1 1).1).2.2 ((bM B).mg ((bM B).usr (.by sd 0) n).1 1).1).2.2,_,_)= _;rw[e1];show (((bM B).ver ((bM B).pub (.by sd (n+1)) (pY sd n)).2.2 (pY sd n)).2.2,((bM B).usr (.by sd 0) n).2.1++ [⟨dW n,((bM B).pub (.by sd (n+1)) (pY sd n)).1,((bM B).ver ((bM B).pub (.by sd (n+1)) (pY sd n)).2.2 (pY sd n)).1⟩],((bM B).usr (.by sd 0) n).2.2++ [pY sd n])= _;rw[e2];show (((bM B).ver (.by sd (n+1)) (pY sd n)).2.2,((bM B).usr (.by sd 0) n).2.1++ [⟨dW n,(Xr sd n).pb,((bM B).ver (.by sd (n+1)) (pY sd n)).1⟩],((bM B).usr (.by sd 0) n).2.2++ [pY sd n])= _;rw[e3,h0]
  rfl
theorem Wy:∀n,n<=5->(bM B).usr (.tm ⟨[], []⟩) n=(.tm (pW n),xE n,QH n)
 | 0,_=>rfl
 | n+1,hn=>by
  have h0:=Wy n aH;obtain⟨A,C,h1,h2,h3⟩:=sI n aH;have e1:(bM B).mg ((bM B).usr (.tm ⟨[], []⟩) n).1 1=(fA n,0,.tm A):=by
   rw[h0];show ((kX (pW n) 1).1,(kX (pW n) 1).2.1,Su.tm (kX (pW n) 1).2.2)= _;rw[h1]
   rfl
  have e2:(bM B).pub (.tm A) (fA n)=((psT n).pb,0,.tm C):=by
   show ((iB 2 A (fA n)).1,(iB 2 A (fA n)).2.1,Su.tm (iB 2 A (fA n)).2.2)= _;rw[h2]
   rfl
  have e3:(bM B).ver (.tm C) (fA n)=((psT n).vf,0,.tm (pW (n+1))):=by
   show ((iB 3 C (fA n)).1,(iB 3 C (fA n)).2.1,Su.tm (iB 3 C (fA n)).2.2)= _;rw[h3]
   rfl
  show (((bM B).ver ((bM B).pub ((bM B).mg ((bM B).usr (.tm ⟨[], []⟩) n).1 1).2.2 ((bM B).mg ((bM B).usr (.tm ⟨[], []⟩) n).1 1).1).2.2 ((bM B).mg ((bM B).usr (.tm ⟨[], []⟩) n).1 1).1).2.2,_,_)= _;rw[e1];show (((bM B).ver ((bM B).pub (.tm A) (fA n)).2.2 (fA n)).2.2,((bM B).usr (.tm ⟨[], []⟩) n).2.1++ [⟨dW n,((bM B).pub (.tm A) (fA n)).1,((bM B).ver ((bM B).pub (.tm A) (fA n)).2.2 (fA n)).1⟩],((bM B).usr (.tm ⟨[], []⟩) n).2.2++ [fA n])= _;rw[e2];show (((bM B).ver (.tm C) (fA n)).2.2,((bM B).usr (.tm ⟨[], []⟩) n).2.1++ [⟨dW n,(psT n).pb,((bM B).ver (.tm C) (fA n)).1⟩],((bM B).usr (.tm ⟨[], []⟩) n).2.2++ [fA n])= _;rw[e3,h0]
  rfl
end
section
variable (B : Nat) (sd : Nat -> Int)
theorem abl:(bM B).JH (.by sd 0):=fun n _=>by
 have h0:=Wz B sd n;have e1:(bM B).mg ((bM B).usr (.by sd 0) n).1 1=(pY sd n,0,.by sd (n+1)):=by rw[h0];exact ZV B sd n
 rw[e1];refine⟨rfl,?_,?_⟩
 ·show ((bM B).pub (.by sd (n+1)) (pY sd n)).2.1=0;rw[Ja B sd (n+1) (nQ sd n)]
 ·show ((bM B).ver ((bM B).pub (.by sd (n+1)) (pY sd n)).2.2 (pY sd n)).2.1=0;rw[Ja B sd (n+1) (nQ sd n)];show ((bM B).ver (.by sd (n+1)) (pY sd n)).2.1=0;rw[PY B sd (n+1) (nQ sd n)]
theorem abk:(bM B).JH (.tm ⟨[], []⟩):=fun n hn=>by
 have h0:=Wy B n aH;obtain⟨A,C,h1,h2,h3⟩:=sI n hn;have e1:(bM B).mg ((bM B).usr (.tm ⟨[], []⟩) n).1 1=(fA n,0,.tm A):=by
  rw[h0];show ((kX (pW n) 1).1,(kX (pW n) 1).2.1,Su.tm (kX (pW n) 1).2.2)= _;rw[h1]
  rfl
 have e2:(bM B).pub (.tm A) (fA n)=((psT n).pb,0,.tm C):=by
  show ((iB 2 A (fA n)).1,(iB 2 A (fA n)).2.1,Su.tm (iB 2 A (fA n)).2.2)= _;rw[h2]
  rfl
 have e3:(bM B).ver (.tm C) (fA n)=((psT n).vf,0,.tm (pW (n+1))):=by
  show ((iB 3 C (fA n)).1,(iB 3 C (fA n)).2.1,Su.tm (iB 3 C (fA n)).2.2)= _;rw[h3]
  rfl
 rw[e1];refine⟨rfl,?_,?_⟩
 ·show ((bM B).pub (.tm A) (fA n)).2.1=0;rw[e2]
 ·show ((bM B).ver ((bM B).pub (.tm A) (fA n)).2.2 (fA n)).2.1=0;rw[e2];show ((bM B).ver (.tm C) (fA n)).2.1=0;rw[e3]
end
section
variable {B : Nat} {S : TS} {P : mD} {s b x : List Int} {sd : Nat -> Int}
theorem Zr (B:Nat) (X:Su) (a b:List Int):(bM B).rT X a b=Su.rT X a b:=rfl
theorem abq (B:Nat) (S:TS) (P:mD) (s b:List Int):(bM B).take (.tm S) P s b=(((dM B).take S P s b).1,((dM B).take S P s b).2.1,.tm ((dM B).take S P s b).2.2):=by
 have e1:(bM B).take (.tm S) P s b=if (eF S s b).2=0 then if ((dM B).is S P (eF S s b).1).1=true then ((eF S s b).1,0,Su.tm ((dM B).is S P (eF S s b).1).2) else ([],44,Su.tm ((dM B).is S P (eF S s b).1).2) else ([],(eF S s b).2,Su.tm S):=rfl
 have e2:(dM B).take S P s b=if (eF S s b).2=0 then if ((dM B).is S P (eF S s b).1).1=true then ((eF S s b).1,0,((dM B).is S P (eF S s b).1).2) else ([],44,((dM B).is S P (eF S s b).1).2) else ([],(eF S s b).2,S):=rfl
 rw[e1,e2];by_cases h0:(eF S s b).2=0
 ·rw[if_pos h0,if_pos h0];by_cases h1:((dM B).is S P (eF S s b).1).1=true
  ·rw[if_pos h1,if_pos h1];rfl
  ·rw[if_neg h1,if_neg h1];rfl
 ·rw[if_neg h0,if_neg h0];rfl
theorem afh {k a c n:Nat} (hk:S.l[k]? =some (4,((3 * c+1:Nat):Int),((3 * a:Nat):Int))) (h:Vz S) (hl:S.l.length<=800) (hc:c<5) (hn:n<5):eF S (fA n) (eP (k:Int))=if n=c then (fA a,0) else ([],20):=by
 have lk:=(List.getElem?_eq_some_iff.1 hk).1;have e1:lS S (fA n)=some (3 * n):=kV (h.lt hn) aH;have e2:lS S (eP (k:Int))=some k:=kV lk aH;have e3:Nq S k=4:=by unfold Nq;rw[Gx hk]
 unfold eF;rw[e1,e2];simp only[e3,Gx hk,CX (h.at1 hc)];by_cases e:n=c
 ·subst e;rw[if_pos ⟨trivial,rfl⟩,if_pos rfl]
  rfl
 ·rw[if_neg (fun h=>e (by have:=h.2;omega)),if_neg e]
theorem afo (B:Nat) (m:Nat) (hx:x.length=32) (hu:iV s b=(x,0)):(bM B).take (.by sd m) P s b=if qE 32 (rZ (bf x))=P.pb/\qE 32 (vW (bf x))=P.vf then (x,0,.by sd m) else ([],44,.by sd m):=by
 have e0:(bM B).take (.by sd m) P s b=if (iV s b).2=0 then if ((bM B).is (.by sd m) P (iV s b).1).1=true then ((iV s b).1,0,((bM B).is (.by sd m) P (iV s b).1).2) else ([],44,((bM B).is (.by sd m) P (iV s b).1).2) else ([],(iV s b).2,.by sd m):=rfl
 have e1:(bM B).is (.by sd m) P x=(decide (qE 32 (rZ (bf x))=P.pb/\qE 32 (vW (bf x))=P.vf),.by sd m):=by
  unfold Eng.is;rw[Ja B sd m hx]
  dsimp only
  rw[PY B sd m hx]
  dsimp only
  simp only[true_and]
 rw[e0,hu]
 dsimp only
 rw[if_pos rfl,e1]
 dsimp only
 by_cases e:qE 32 (rZ (bf x))=P.pb/\qE 32 (vW (bf x))=P.vf
 ·rw[if_pos e,if_pos (decide_eq_true e)]
 ·rw[if_neg e,if_neg (by rw[decide_eq_false e];decide)]
end
section
variable {B : Nat} {S : TS} {sd : Nat -> Int} {a b : List Int} {me : ByteArray}
structure RtD (B:Nat) (ro:List mD) (P:Nat->mD) (sc:Nat->List Int) (X:Su) (D:List qG):Prop where
 per:∀i,i<5->mG ro (dW i)=(P i,true)
 dep:∀d ∈ D,∃a c,a<5/\c<5/\d.fr=dW a/\d.ta=dW c/\d.b.length<=400/\(bM B).take X (P a) (sc c) d.b=(sc a,0,X)
def ajX (sc:Nat->List Int) (l:List EW):Prop:=∀h ∈ l,∃i,i<5/\h=⟨dW i,sc i⟩
structure AlR (X:Su) (sc:Nat->List Int) (L:List ByteArray) (s:EU Su):Prop where
 x:s.X=X
 bad:s.bad=false
 ok:ajX sc s.out
 nm:s.out.map (·.nm)=L
variable {ro : List mD} {P : Nat -> mD} {sc : Nat -> List Int} {X : Su} {D : List qG} {L : List ByteArray} {s : EU Su} {h : EW} {d : qG}
theorem ajT (hR:RtD B ro P sc X D) (hs:AlR X sc L s) (hh:∃i,i<5/\h=⟨dW i,sc i⟩) (hd:d ∈ D):AlR X sc (Ny h.nm L d) ((bM B).one ro h s d):=by
 obtain⟨i,hi,rfl⟩:=hh;obtain⟨a,c,ha,hc,ef,et,_,ht⟩:=hR.dep d hd;unfold Ny;by_cases VK:d.ta=dW i
 ·obtain rfl:c=i:=Bg hc hi (et▸VK);have hp:mG ro d.fr=(P a,true):=by rw[ef];exact hR.per a ha
  have e0:=afR (bM B).toEng (h:=⟨dW c,sc c⟩) (s:=s) VK hp;have ht':(bM B).take s.X (P a) (sc c) d.b=(sc a,0,X):=hs.x.symm▸ht
  dsimp only at e0
  rw[ht'] at e0;have e1:=e0.trans (if_neg (fun h=>h rfl));rw[if_pos VK,←hs.nm];unfold addN;by_cases hm:d.fr ∈ s.out.map (·.nm)
  ·rw[if_pos hm];rw[e1,if_pos (xY.2 hm)];exact⟨rfl,hs.bad,hs.ok,rfl⟩
  ·rw[if_neg hm];rw[e1,if_neg (fun h=>hm (xY.1 h))];refine⟨rfl,hs.bad,fun g hg=>?_,by rw[List.map_append];rfl⟩;rcases List.mem_append.1 hg with hg | hg
   ·exact hs.ok g hg
   ·obtain rfl:=List.mem_singleton.1 hg;exact⟨a,ha,by rw[ef]⟩
 ·have e0:(bM B).one ro ⟨dW i,sc i⟩ s d=s:=if_neg VK;rw[e0,if_neg VK];exact hs
theorem aed (hR:RtD B ro P sc X D) (hs:AlR X sc L s) (hh:∃i,i<5/\h=⟨dW i,sc i⟩):∀k,AlR X sc (yO D h.nm L k) ((bM B).inn ro D h s k)
 | 0=>hs
 | k+1=>by
  have i1:=aed hR hs hh k
  cases hd:D[k]? with
  | some d=>
   have e1:(bM B).inn ro D h s (k+1)=(bM B).one ro h ((bM B).inn ro D h s k) d:=by
    show (match D[k]? with | some d=>(bM B).one ro h ((bM B).inn ro D h s k) d | none=>(bM B).inn ro D h s k)= _;rw[hd]
   have e2:yO D h.nm L (k+1)=Ny h.nm (yO D h.nm L k) d:=by
    show (match D[k]? with | some d=>Ny h.nm (yO D h.nm L k) d | none=>yO D h.nm L k)= _;rw[hd]
   rw[e1,e2];exact ajT hR i1 hh (List.mem_of_getElem? hd)
  | none=>
   have e1:(bM B).inn ro D h s (k+1)=(bM B).inn ro D h s k:=by
    show (match D[k]? with | some d=>(bM B).one ro h ((bM B).inn ro D h s k) d | none=>(bM B).inn ro D h s k)= _;rw[hd]
   have e2:yO D h.nm L (k+1)=yO D h.nm L k:=by
    show (match D[k]? with | some d=>Ny h.nm (yO D h.nm L k) d | none=>yO D h.nm L k)= _;rw[hd]
   rw[e1,e2];exact i1
theorem aeF (hR:RtD B ro P sc X D) {m:Nat} (hm:m<5):∀i,AlR X sc (gK (je (D.map wJ)) [dW m] i).1 ((bM B).all ro D ⟨X, [⟨dW m,sc m⟩],false⟩ i)
 | 0=>by
  refine⟨rfl,rfl,fun h hh=>?_,?_⟩
  ·obtain rfl:=List.mem_singleton.1 hh;exact⟨m,hm,rfl⟩
  ·show [dW m] =(ajG [dW m]).1
   rfl
 | i+1=>by
  have i1:=aeF hR hm i
  cases hh:((bM B).all ro D ⟨X, [⟨dW m,sc m⟩],false⟩ i).out[i]? with
  | some h=>
   have e1:(bM B).all ro D ⟨X, [⟨dW m,sc m⟩],false⟩ (i+1)=(bM B).inn ro D h ((bM B).all ro D ⟨X, [⟨dW m,sc m⟩],false⟩ i) D.length:=by
    show (match ((bM B).all ro D ⟨X, [⟨dW m,sc m⟩],false⟩ i).out[i]? with | some h=>(bM B).inn ro D h ((bM B).all ro D ⟨X, [⟨dW m,sc m⟩],false⟩ i) D.length | none=>(bM B).all ro D ⟨X, [⟨dW m,sc m⟩],false⟩ i)= _;rw[hh]
   have hn:(gK (je (D.map wJ)) [dW m] i).1[i]? =some h.nm:=by rw[<-i1.nm,List.getElem?_map,hh];rfl
   rw[e1,←Qy hn];exact aed hR i1 (i1.ok h (List.mem_of_getElem? hh)) D.length
  | none=>
   have e1:(bM B).all ro D ⟨X, [⟨dW m,sc m⟩],false⟩ (i+1)=(bM B).all ro D ⟨X, [⟨dW m,sc m⟩],false⟩ i:=by
    show (match ((bM B).all ro D ⟨X, [⟨dW m,sc m⟩],false⟩ i).out[i]? with | some h=>(bM B).inn ro D h ((bM B).all ro D ⟨X, [⟨dW m,sc m⟩],false⟩ i) D.length | none=>(bM B).all ro D ⟨X, [⟨dW m,sc m⟩],false⟩ i)= _;rw[hh]
   have hl:=List.getElem?_eq_none_iff.1 hh;rw[e1,Fz (by rw[<-i1.nm,List.length_map];exact hl)];exact i1
theorem RU (hR:RtD B ro P sc X D) {m i:Nat} (hm:m<5) (hi:((bM B).all ro D ⟨X, [⟨dW m,sc m⟩],false⟩ i).out.length=i):AlR X sc (sM (je (D.map wJ)) [dW m]).1 ((bM B).all ro D ⟨X, [⟨dW m,sc m⟩],false⟩ i):=by
 have h:=aeF hR hm i;rw[Cc (i:=i) (by rw[<-h.nm,List.length_map];exact hi)];exact h
theorem take_same {a c k:Nat} (h:Vz S) (hl:S.l.length<=800) (ha:a<5) (hc:c<5) (hk:S.l[k]? =some (4,((3 * c+1:Nat):Int),((3 * a:Nat):Int))):(bM B).take (.tm S) (psT a) (fA c) (eP (k:Int))=(fA a,0,.tm S):=by
 have hu:=(afh hk h hl hc hc).trans (if_pos rfl);have ht:=h.lt ha;have e1:iB 2 S (fA a)=(eP (nU S (2,((3 * a:Nat):Int),0)).1,0,S):=by
  have hp:S.put (2,((3 * a:Nat):Int),0)=S:=if_neg fun hh=>hh.2 (List.mem_of_getElem? (h.at1 ha));unfold iB fA;rw[kV ht aH];dsimp only;rw[hp]
 have e2:iB 3 S (fA a)=(eP (nU S (3,((3 * a:Nat):Int),0)).1,0,S):=by
  have hp:S.put (3,((3 * a:Nat):Int),0)=S:=if_neg fun hh=>hh.2 (List.mem_of_getElem? (h.at2 ha));unfold iB fA;rw[kV ht aH];dsimp only;rw[hp]
 have hI:((dM B).is S (psT a) (fA a)).1=true:=by
  have:=(aoU B h hl ha ht).1;exact this.trans (decide_eq_true rfl)
 have hS:((dM B).is S (psT a) (fA a)).2=S:=by
  show (iB 3 (iB 2 S (fA a)).2.2 (fA a)).2.2=S;rw[e1];show (iB 3 S (fA a)).2.2=S;rw[e2]
 rw[abq];have e3:(dM B).take S (psT a) (fA c) (eP (k:Int))=if (eF S (fA c) (eP (k:Int))).2=0 then if ((dM B).is S (psT a) (eF S (fA c) (eP (k:Int))).1).1=true then ((eF S (fA c) (eP (k:Int))).1,0,((dM B).is S (psT a) (eF S (fA c) (eP (k:Int))).1).2) else ([],44,((dM B).is S (psT a) (eF S (fA c) (eP (k:Int))).1).2) else ([],(eF S (fA c) (eP (k:Int))).2,S):=rfl
 have e4:(dM B).take S (psT a) (fA c) (eP (k:Int))=(fA a,0,S):=by
  rw[e3,hu]
  dsimp only
  rw[if_pos rfl,hI,if_pos rfl,hS]
  rfl
 rw[e4]
theorem Gq {a c:Nat} (h:Vz S) (hl:S.l.length<=800) (ha:a<5) (hc:c<5):∃(k:Nat) (S1:TS),lQ 4 S (Ea c) (fA a)=(eP (k:Int),0,S1)/\Vz S1/\S1.l[k]? =some (4,((3 * c+1:Nat):Int),((3 * a:Nat):Int))/\S1.l.length<=S.l.length+1/\S.l <+:S1.l:=by
 have h1:=h.at1 hc;have l1:=(List.getElem?_eq_some_iff.1 h1).1;have l2:=h.lt ha;have hk:Nq S (3 * c+1)=2:=by unfold Nq;rw[Gx h1]
 obtain⟨k,p1,p2,p3⟩:=Ht h.ok (Ya (k:=4) (.inl ⟨rfl,hk⟩) l1 l2);have hl2:=(xG S (4,((3 * c+1:Nat):Int),((3 * a:Nat):Int))).1;refine⟨k,_,?_,⟨h.ok.put _,h.pre.trans (wB _).1,iw hl2 aH⟩,p2,hl2,(wB _).1⟩;unfold lQ Ea fA psT;rw[kV l1 aH,kV l2 aH];simp only;rw[if_neg (fun h=>h.2 hk),p1]
theorem PL (B:Nat) (f g:Nat->Nat):∀k,k<=10->∃S D,(bM B).dep (.tm (pW 5)) Ea fA f g k=(.tm S,D)/\Vz S/\S.l.length<=15+k/\(∀d ∈ D,∃a c j:Nat,a<5/\c<5/\d=⟨dW a,dW c,eP (j:Int)⟩/\S.l[j]? =some (4,((3 * c+1:Nat):Int),((3 * a:Nat):Int)))/\∃b X',(bM B).rT (.tm S) (Ea (g k % 5)) (fA (f k % 5))=(b,0,X')
 | 0,_=>by
  have hG:Vz (pW 5):=⟨afg,List.prefix_refl _,(show (pW 5).l.length<=900 by decide)⟩
  obtain⟨j,S1,e,_⟩:=Gq (a:=f 0 % 5) (c:=g 0 % 5) hG (show (pW 5).l.length<=800 by decide) (Nat.mod_lt _ aM) (Nat.mod_lt _ aM);refine⟨pW 5, [],rfl,hG,(show (pW 5).l.length<=15+0 by decide),(fun d h=>by cases h),eP (j:Int),.tm S1,?_⟩;show ((lQ 4 (pW 5) (Ea (g 0 % 5)) (fA (f 0 % 5))).1,(lQ 4 (pW 5) (Ea (g 0 % 5)) (fA (f 0 % 5))).2.1,Su.tm (lQ 4 (pW 5) (Ea (g 0 % 5)) (fA (f 0 % 5))).2.2)= _;rw[e];rfl
 | k+1,hk=>by
  obtain⟨S,D,e0,hG,hl,hD,_⟩:=PL B f g k aH;obtain⟨j,S1,e,hG1,hj,hl1,hp⟩:=Gq (a:=f k % 5) (c:=g k % 5) hG aH (Nat.mod_lt _ aM) (Nat.mod_lt _ aM);have ew:(bM B).rT (.tm S) (Ea (g k % 5)) (fA (f k % 5))=(eP (j:Int),0,.tm S1):=by
   show ((lQ 4 S (Ea (g k % 5)) (fA (f k % 5))).1,(lQ 4 S (Ea (g k % 5)) (fA (f k % 5))).2.1,Su.tm (lQ 4 S (Ea (g k % 5)) (fA (f k % 5))).2.2)= _;rw[e];rfl
  have e1:(bM B).dep (.tm (pW 5)) Ea fA f g (k+1)=(.tm S1,D++ [⟨dW (f k % 5),dW (g k % 5),eP (j:Int)⟩]):=by
   show (((bM B).rT ((bM B).dep (.tm (pW 5)) Ea fA f g k).1 (Ea (g k % 5)) (fA (f k % 5))).2.2,((bM B).dep (.tm (pW 5)) Ea fA f g k).2++ [⟨dW (f k % 5),dW (g k % 5),((bM B).rT ((bM B).dep (.tm (pW 5)) Ea fA f g k).1 (Ea (g k % 5)) (fA (f k % 5))).1⟩])= _;rw[e0];show (((bM B).rT (.tm S) (Ea (g k % 5)) (fA (f k % 5))).2.2,D++ [⟨dW (f k % 5),dW (g k % 5),((bM B).rT (.tm S) (Ea (g k % 5)) (fA (f k % 5))).1⟩])= _;rw[ew]
  obtain⟨j2,S2,e2,_⟩:=Gq (a:=f (k+1) % 5) (c:=g (k+1) % 5) hG1 aH (Nat.mod_lt _ aM) (Nat.mod_lt _ aM);refine⟨S1,_,e1,hG1,by omega,fun d hd=>?_,eP (j2:Int),.tm S2,?_⟩
  ·rcases List.mem_append.1 hd with hd | hd
   ·obtain⟨a,c,i,ha,hc,ed,hi⟩:=hD d hd;exact⟨a,c,i,ha,hc,ed,tq hp hi⟩
   ·obtain rfl:=List.mem_singleton.1 hd;exact⟨_,_,j,Nat.mod_lt _ aM,Nat.mod_lt _ aM,rfl,hj⟩
  ·show ((lQ 4 S1 (Ea (g (k+1) % 5)) (fA (f (k+1) % 5))).1,(lQ 4 S1 (Ea (g (k+1) % 5)) (fA (f (k+1) % 5))).2.1,Su.tm (lQ 4 S1 (Ea (g (k+1) % 5)) (fA (f (k+1) % 5))).2.2)= _;rw[e2];rfl
noncomputable def VH (sd:Nat->Int) (i:Nat):List Int:=(Xr sd i).pb
theorem JO (B:Nat) (m:Nat) {a c:Nat} {b:List Int} (hu:iV (pY sd c) b=(pY sd a,0)):(bM B).take (.by sd m) (Xr sd a) (pY sd c) b=(pY sd a,0,.by sd m):=
 (afo (sd:=sd) (P:=Xr sd a) B m (nQ sd a) hu).trans (if_pos ⟨rfl,rfl⟩)
theorem Gp (B:Nat) (sd:Nat->Int) (m a c:Nat):∃b,(bM B).rT (.by sd m) (VH sd c) (pY sd a)=(b,0,.by sd (m+1))/\iV (pY sd c) b=(pY sd a,0)/\b.length<=400:=by
 obtain⟨b,h1,h2,h3,_⟩:=IZ sd m (nQ sd c) (Bf fun i _=>IQ sd a i:okB (pY sd a));have h1':Su.rT (.by sd m) (VH sd c) (pY sd a)=(b,0,.by sd (m+1)):=h1;exact⟨b,(Zr B (.by sd m) (VH sd c) (pY sd a)).trans h1',h2,iw (Nat.le_of_eq h3) (by show (pY sd _).length+48<=400;rw[nQ];omega)⟩
theorem PS (B:Nat) (sd:Nat->Int) (f g:Nat->Nat):∀k,∃D,(bM B).dep (.by sd 5) (VH sd) (pY sd) f g k=(.by sd (5+k),D)/\(∀d ∈ D,∃a c,a<5/\c<5/\d.fr=dW a/\d.ta=dW c/\d.b.length<=400/\iV (pY sd c) d.b=(pY sd a,0))/\∃b X',(bM B).rT (.by sd (5+k)) (VH sd (g k % 5)) (pY sd (f k % 5))=(b,0,X')
 | 0=>by
  obtain⟨b,h1,_⟩:=Gp B sd 5 (f 0 % 5) (g 0 % 5);exact⟨[],rfl,(fun d h=>by cases h),b,_,h1⟩
 | k+1=>by
   obtain⟨D,e0,hD,_⟩:=PS B sd f g k;obtain⟨b,h1,h2,h3⟩:=Gp B sd (5+k) (f k % 5) (g k % 5);obtain⟨b2,h4,_⟩:=Gp B sd (5+(k+1)) (f (k+1) % 5) (g (k+1) % 5);refine⟨D++ [⟨dW (f k % 5),dW (g k % 5),b⟩],?_,fun d hd=>?_,b2,_,h4⟩
   ·show (((bM B).rT ((bM B).dep (.by sd 5) (VH sd) (pY sd) f g k).1 (VH sd (g k % 5)) (pY sd (f k % 5))).2.2,((bM B).dep (.by sd 5) (VH sd) (pY sd) f g k).2++ [⟨dW (f k % 5),dW (g k % 5),((bM B).rT ((bM B).dep (.by sd 5) (VH sd) (pY sd) f g k).1 (VH sd (g k % 5)) (pY sd (f k % 5))).1⟩])= _;rw[e0]
    dsimp only
    rw[h1,Nat.add_assoc]
   ·rcases List.mem_append.1 hd with hd | hd
    ·exact hD d hd
    ·obtain rfl:=List.mem_singleton.1 hd;exact⟨_,_,Nat.mod_lt _ aM,Nat.mod_lt _ aM,rfl,rfl,h3,h2⟩
theorem Hf {i:Nat} (hi:i<5):(roB sd 5)[i]? =some (Xr sd i):=by
 rcases(by omega:i=0\/i=1\/i=2\/i=3\/i=4) with rfl | rfl | rfl | rfl | rfl<;> rfl
theorem afx {i:Nat} (hi:i<5):(ssB sd 5)[i]? =some (pY sd i):=by
 rcases(by omega:i=0\/i=1\/i=2\/i=3\/i=4) with rfl | rfl | rfl | rfl | rfl<;> rfl
theorem afL {i:Nat} (hi:i<5):mG (roB sd 5) (dW i)=(Xr sd i,true):=by
 have e:Bq ((roB sd 5).map (·.nm)) (dW i)=i:=Bo (by rw[List.getElem?_map,Hf hi];rfl) fun j a hj ha=>by
  rw[List.getElem?_map,Hf aH] at ha;obtain rfl:dW j=a:=gJ ha;exact fun h=>by have:=Bg aH hi h;omega
 unfold mG;rw[e,Hf hi]
structure aiE (B:Nat) (f g:Nat->Nat) (m:Nat) (X:Su) (ro:List mD) (ss:List (List Int)) (P:Nat->mD) (sc:Nat->List Int) (X1:Su) (D:List qG):Prop where
 rl:ro.length=5
 sl:ss.length=5
 sz:X.size<=15
 ps:∀i,i<5->ro[i]? =some (P i)/\ss[i]? =some (sc i)/\(sc i).length<=100
 dep:(bM B).dep X (fun i=>(P i).pb) sc f g m=(X1,D)
 ok:∀k,k<m->((bM B).rT ((bM B).dep X (fun i=>(P i).pb) sc f g k).1 ((P (g k % 5)).pb) (sc (f k % 5))).2.1=0
 s1:X1.size<=30
 rt:RtD B ro P sc X1 D
theorem ahJ (B:Nat) (bw:Bool) (sd:Nat->Int) (f g:Nat->Nat) {m:Nat} (hm:m<=10):∃(X:Su) (ro:List mD) (ss:List (List Int)) (P:Nat->mD) (sc:Nat->List Int) (X1:Su) (D:List qG),(bM B).usr (Su.new bw sd) 5=(X,ro,ss)/\(bM B).JH (Su.new bw sd)/\aiE B f g m X ro ss P sc X1 D:=by
 cases bw with
 | true=>
  obtain⟨D,e,hD,_⟩:=PS B sd f g m;refine⟨.by sd 5,roB sd 5,ssB sd 5,Xr sd,pY sd,.by sd (5+m),D,Wz B sd 5,abl B sd,rfl,rfl,(show 5<=15 by decide),fun i hi=>⟨Hf hi,afx hi,by rw[nQ];omega⟩,(by rw[show (fun i=>(Xr sd i).pb)=VH sd from rfl];exact e),fun k _=>?_,(show 5+m<=30 by omega),fun i hi=>afL hi,fun d hd=>?_⟩
  ·obtain⟨D',e',_,b,X',h⟩:=PS B sd f g k;rw[show (fun i=>(Xr sd i).pb)=VH sd from rfl,e'];have h':(bM B).rT (.by sd (5+k)) ((Xr sd (g k % 5)).pb) (pY sd (f k % 5))=(b,0,X'):=h
   dsimp only
   rw[h']
  ·obtain⟨a,c,ha,hc,h1,h2,h3,h4⟩:=hD d hd;exact⟨a,c,ha,hc,h1,h2,h3,JO B (5+m) h4⟩
 | false=>
  obtain⟨S,D,e,hG,hl,hD,_⟩:=PL B f g m hm;refine⟨.tm (pW 5),xE 5,QH 5,psT,fA,.tm S,D,Wy B 5 (bH _),abk B,rfl,rfl,(show (pW 5).l.length<=15 by decide),fun i hi=>⟨He hi,afw hi,by show (eP _).length<=100;rw[jL];decide⟩,e,fun k hk=>?_,(show S.l.length<=30 by omega),fun i hi=>afK hi,fun d hd=>?_⟩
  ·obtain⟨S',D',e',_,_,_,b,X',h⟩:=PL B f g k aH;have e'':(bM B).dep (.tm (pW 5)) (fun i=>(psT i).pb) fA f g k=(.tm S',D'):=e';rw[e''];exact congrArg (fun r:List Int × Int × Su=>r.2.1) h
  ·obtain⟨a,c,j,ha,hc,rfl,hj⟩:=hD d hd;exact⟨a,c,ha,hc,rfl,rfl,by show (eP _).length<=400;rw[jL];decide,take_same hG aH ha hc hj⟩
end
end Go.Proofs.YtpcjekgfnfjbpaaGreat
namespace Go.Proofs.YtpcjekgfnfjbpaaGreat
open Go.RowKit Go.bI Go.ChangeShapes Go.Maps
attribute [local go_sem ↓] Go.wp_at_zero Go.wp_at_succ
theorem Bd (E:Bool) (L:List ByteArray) (v:Value) (x:ByteArray) (w:World) (h:Ns w v L.length 1 (lv sj L)) (hL:L.length<=1000) (hE:E=true ↔ x ∈ L):Calls Tryz.prog 56 #[v,sj x] w fun e w'=>e=.returned (.bool E)/\w'=w:=by
 have HE:=ay hE;clear hE;obtain⟨a,cap,rfl,hcap,hcap2,hcell⟩:=h.one;have HC:=ay hcell;have HL:=ay hL;clear h hcell hL
 go_enter Tryz.func56,Tryz.ntmps56
 go_wp2
 go_loop [5] (fun i=> ∃k:Nat,k<=L.length/\i=.int .i64 k/\∀j,j<k->L[j]?≠some x) (fun i=>L.length - (intOf i).toNat)
 case atStart=>exact⟨0,jm _,rfl,fun j hj=>absurd hj (Nat.not_lt_zero _)⟩
 case round=>
  obtain⟨k,hk,rfl,hno⟩:=hrel;have Jp:=ay hno;clear hno;by_cases hlt:k<L.length
  ·obtain⟨b,o,rfl,_,z0⟩:=HC.out k hlt;obtain⟨y,hy⟩:∃y,L[k]? =some y:=⟨_,kP hlt⟩
   rw[lY hy] at z0;have HY:=ay hy;have q9:(k:Int)<1000000:=by have:=HL.out;omega
   clear hy;by_cases hxy:y=x
   ·have hbq:(y.toList==x.toList)=true:=(yx hxy)
    have HEK:Hid (E=true):=ay (HE.out.2 (List.mem_of_getElem? (hxy▸HY.out)));have HXY:=ay hxy;clear hxy;go_wp2;go_ret;rw[HEK.out];exact⟨rfl,rfl⟩
   ·have hbq:(y.toList==x.toList)=false:=(yA hxy)
    have Vq:Hid (∀j,j<k+1->L[j]?≠some x):=fun j hj=>by
     by_cases e:j=k
     ·subst e;rw[HY.out];intro e2;exact hxy (gJ e2)
     ·exact Jp.out j aH
    have HXY:=ay hxy;clear hxy;go_wp2
    go_round
    case rel=>exact⟨k+1,by omega,by go_num,Vq.out⟩
    case measure=>simp[intOf];omega
  ·obtain rfl:k=L.length:=by omega
   have HEK:Hid (E=false):=ay (Bool.eq_false_iff.2 fun he=>by
    have hm:=HE.out.1 he;obtain⟨j,hj,e⟩:=List.mem_iff_getElem.1 hm;exact Jp.out j hj (by rw[kP hj,e]))
   go_wp2;go_ret;rw[HEK.out];exact⟨rfl,rfl⟩
theorem abL (L:List ByteArray) (v:Value) (x:ByteArray) (w:World) (h:Ns w v L.length 1 (lv sj L)) (hL:L.length<=1000):∃b:Bool,(b=true ↔ x ∈ L)/\Calls Tryz.prog 56 #[v,sj x] w fun e w'=>e=.returned (.bool b)/\w'=w:=by
 by_cases hx:x ∈ L
 ·exact⟨true,by simp[hx],Bd true L v x w h hL (by simp[hx])⟩
 ·exact⟨false,by simp[hx],Bd false L v x w h hL (by simp[hx])⟩
theorem afF (L:List ByteArray) (va vb:Value) (w:World) (ha:Ns w va L.length 1 (lv sj L)) (hb:Ns w vb L.length 1 (lv sj L)) (hL:L.length<=1000):Calls Tryz.prog 53 #[va,vb] w fun e w'=>e=.returned (.bool true)/\Below w.heap.size w w':=by
 obtain⟨a,cap,rfl,hcap,hcap2,hcell⟩:=ha.one;obtain⟨a',cap',rfl,asF,apr,hcell'⟩:=hb.one;have HC:=ay hcell;have HC':=ay hcell';have HL:=ay hL;clear ha hb hcell hcell' hL
 go_enter Tryz.func53,Tryz.ntmps53
 go_wp2
 go_loopw [13] (fun i wr=> ∃k:Nat,k<=L.length/\i=.int .i64 k/\Below w.heap.size w wr) (fun i _=>L.length - (intOf i).toNat)
 case atStart=>exact⟨0,jm _,rfl,bT _ _⟩
 case round=>
  obtain⟨k,hk,rfl,hb⟩:=hrel;have HB:=ay hb;by_cases hlt:k<L.length
  ·obtain⟨b,o,rfl,l0,z0⟩:=HC.out k hlt;obtain⟨b',o',rfl,l0',z0'⟩:=HC'.out k hlt;obtain⟨y,hy⟩:∃y,L[k]? =some y:=⟨_,kP hlt⟩
   rw[lY hy] at z0 z0';have Z0:Hid (wr.cell? ⟨b,o+k * 1,none⟩=some (.string y)):=ay ((hb.cell (p:=⟨b,o+k * 1,none⟩) l0).trans (by rw[Nat.mul_one];exact z0));have Z0':Hid (wr.cell? ⟨b',o'+k * 1,none⟩=some (.string y)):=ay ((hb.cell (p:=⟨b',o'+k * 1,none⟩) l0').trans (by rw[Nat.mul_one];exact z0'));have W0:Hid (b<wr.heap.size):=ay (qZ l0 hb.size);have W0':Hid (b'<wr.heap.size):=ay (qZ l0' hb.size);have wN:=ay hlt;have q9:(k:Int)<1000000:=by have:=HL.out;omega
   clear z0 z0' l0 l0' hy hb hk;go_upto_region 6 with(fail)
   refine bC (n:=26) aQ aQ aQ rfl
    (fun ii vv _=>(match ii with | 0=>vv=.slice (some ⟨b,o,none⟩) L.length cap | 1 | 5=>vv=.int .i64 ((k:Int)) | 2=>vv=.pointer (some ⟨b,o+k * 1,none⟩) | 3 | 7=>vv=.string y | 4=>vv=.slice (some ⟨b',o',none⟩) L.length cap' | 6=>vv=.pointer (some ⟨b',o'+k * 1,none⟩) | 8=>vv=.bool false | _=>True))
    (fun w w'=>Below w.heap.size w w') (fun _ _ h=>h) (fun _ _ _ _ h _=>h) ?_ ?_
   ·refine dG ?_;refine⟨?_,?_,?_,?_,?_,?_,?_,?_,?_,trivial⟩
    ·intro a w2 hB hF hd;exact aN <| aG _ (.inl rfl) aR (hF.same 0 rfl)
    ·intro a w2 hB hF hd;exact aN <| aG _ (.inl rfl) aR (hF.same 5 rfl)
    ·intro a w2 hB hF hd;exact aN <| aW (rV (i:=k) (sz:=1) rfl (hd 0 _ rfl (aj rfl)) (hd 1 _ rfl (aj rfl)) Tryz.underlying81 aQ wN.out) rfl
    ·intro a w2 hB hF hd;exact aN <| aW (eT rfl (hd 2 _ rfl (aj rfl)) yG ((hB.cell (p:=⟨b,o+k * 1,none⟩) W0.out).trans Z0.out)) rfl
    ·intro a w2 hB hF hd;exact aN <| aG _ (.inl rfl) aR (hF.same 1 rfl)
    ·intro a w2 hB hF hd;exact aN <| aG _ (.inl rfl) aR (hF.same 5 rfl)
    ·intro a w2 hB hF hd;exact aN <| aW (rV (i:=k) (sz:=1) rfl (hd 4 _ rfl (aj rfl)) (hd 5 _ rfl (aj rfl)) Tryz.underlying81 aQ wN.out) rfl
    ·intro a w2 hB hF hd;exact aN <| aW (eT rfl (hd 6 _ rfl (aj rfl)) yG ((hB.cell (p:=⟨b',o'+k * 1,none⟩) W0'.out).trans Z0'.out)) rfl
    ·intro a w2 hB hF hd;exact aN <| aW (sP rfl (hd 3 _ rfl (aj rfl)) (hd 7 _ rfl (aj rfl)) yG) (congrArg Value.bool (show (!decide (y=y))=false by simp))
   ·intro a w5 hB hF hS;have ha:=aO rfl rfl hF [_,_,_,_,_,_,_,_,_] rfl ⟨hS 0 _ rfl,hS 1 _ rfl,hS 2 _ rfl,hS 3 _ rfl,hS 4 _ rfl,hS 5 _ rfl,hS 6 _ rfl,hS 7 _ rfl,hS 8 _ rfl,trivial⟩;simp only[puts,Act.put,fB,fD,fF] at ha;subst ha;clear hS hF;have VZ:=ay (HB.out.trans (hB.mono HB.out.size));clear hB;go_wp2;go_roundw
    case rel=>exact⟨k+1,wN.out,by go_num,VZ.out⟩
    case measure=>have:=wN.out;simp[intOf] <;> omega
  ·obtain rfl:k=L.length:=by omega
   go_wp2;go_ret;exact⟨rfl,HB.out⟩
structure Vk (N:Nat) (w:World) (v:Value) (L:List ByteArray):Prop where
 m:iA 9 1 w v L.length (lv sj L)
 n:∀b,v.ownBlock=some b->N<=b
theorem Vk.below {N:Nat} {w w':World} {v:Value} {L:List ByteArray} (h:Vk N w v L) (hb:Below w.heap.size w w'):Vk N w' v L:=⟨h.m.below hb,h.n⟩
theorem Qx (D:List qG) (nm:ByteArray) (s:List ByteArray):∀k,(yO D nm s k).length<=s.length+k
 | 0=>bH _
 | k+1=>by
  have:=Qx D nm s k;show (match D[k]? with | some d=>Ny nm (yO D nm s k) d | none=>yO D nm s k).length<=_
  split
  ·unfold Ny addN
   split
   ·split
    ·omega
    ·rw[List.length_append,List.length_singleton];omega
   ·omega
  ·omega
theorem Xn {F:Nat->Prop} {w:World} {vl:Value} {D:List qG} {qd:Nat->Nat->Value} (hD:uX (Jz F) 66 3 w vl D qd) (hm:D.length<=10) (me:ByteArray):Calls Tryz.prog 52 #[vl,sj me] w fun e w'=> ∃va,e=.returned va/\Vk w.heap.size w' va (sM (je (D.map wJ)) [me]).1/\Below w.heap.size w w':=by
 obtain⟨LL,hLL⟩:∃f:Nat->List ByteArray,f=fun i=>(gK (je (D.map wJ)) [me] i).1:=⟨_,rfl⟩
 have H0:Hid (LL 0= [me]):=ay (by rw[hLL];rfl);have DX:Hid (∀i nm,(LL i)[i]? =some nm->yO D nm (LL i) D.length=LL (i+1)):=ay fun i nm h=>by rw[hLL] at h ⊢;exact Qy h
 have adR:Hid (∀i,(LL i).length=i->LL i=(sM (je (D.map wJ)) [me]).1):=ay fun i h=>by rw[hLL] at h ⊢;exact(congrArg Prod.fst (Cc h)).symm
 have HBD:Hid (∀i,(LL i).length<=11):=ay fun i=>by
  rw[hLL];have h1:=rE (E:=je (D.map wJ)) (fr:= [me]) i;have h2:=qM (D.map wJ);rw[List.length_map] at h2;have h3:([me] :List ByteArray).length=1:=rfl;show (gK (je (D.map wJ)) [me] i).1.length<=11;omega
 obtain⟨WN,hWN⟩:∃W,W=(sM (je (D.map wJ)) [me]).1:=⟨_,rfl⟩
 rw[<-hWN] at adR ⊢;have VW:=ay hD;have HM:=ay hm;obtain⟨ad,cd,rfl,_,_⟩:=hD.os.m.slice;obtain⟨m,hmm⟩:∃m,m=D.length:=⟨_,rfl⟩
 have Sc:Hid (D.length=m):=ay hmm.symm;have AX:Hid (m<=10):=ay aH;rw[<-hmm] at VW DX ⊢;clear hD hm hLL hWN hmm
 go_enter Tryz.func52,Tryz.ntmps52
 go_upto_region 2 with(fail);refine aJ (fun w1=>Vk w.heap.size w1 (.slice (some ⟨w.heap.size,0,none⟩) 1 1) [me] /\Below w.heap.size w w1) ⟨⟨iA.new w 9 1 (by unfold maxLen;decide) rfl (fun j hj i hi=>by
  obtain rfl:j=0:=by have h:j<1:=hj;omega
  obtain rfl:i=0:=by omega
  rfl),fun b hb=>by cases hb;exact bH _⟩,(bT _ _).alloc (bH _) _⟩ ?_
 rintro w1 ⟨h1,b1⟩;have H1:=ay h1;have B1:=ay b1;obtain⟨v1,hv1⟩:∃v,v=(.slice (some ⟨w.heap.size,0,none⟩) 1 1:Value):=⟨_,rfl⟩
 rw[<-hv1] at H1 ⊢;clear h1 b1 hv1;go_wp2
 go_loopw [5,6] (fun vo i wr=> ∃k:Nat,i=.int .i64 (k:Int)/\k<=(LL k).length/\Vk w.heap.size wr vo (LL k)/\Below w.heap.size w wr) (fun _ i _=>12 - (intOf i).toNat)
 case atStart=>exact⟨0,rfl,jm _,by rw[H0.out];exact H1.out,B1.out⟩
 case round=>
  obtain⟨k,rfl,hk,ht,hb⟩:=hrel;have HT:=ay ht;have HB:=ay hb;obtain⟨n,hn⟩:∃n,n=(LL k).length:=⟨_,rfl⟩
  have HN:Hid (n=(LL k).length):=ay hn;have ais:Hid (n<=11):=ay (by have:=HBD.out k;omega);obtain⟨ao,co,eo,_⟩:=ht.m.slice;rw[<-hn] at eo hk;subst eo;clear ht hb hn;by_cases hlt:k<n
  ·have wN:=ay hlt;have q9:(k:Int)<1000000:=by have:=ais.out;omega
   obtain⟨nm,hnm⟩:∃x,(LL k)[k]? =some x:=⟨_,kP (by have:=HN.out;omega)⟩
   have HNM:=ay hnm;have HNK:=ay (DX.out k nm hnm);obtain⟨IN,Ry⟩:∃f,f=yO D nm (LL k):=⟨_,rfl⟩
   have HI0:Hid (IN 0=LL k):=ay (by rw[Ry];rfl);have HIS:Hid (∀j d,D[j]? =some d->IN (j+1)=Ny nm (IN j) d):=ay fun j d h=>by
    rw[Ry];show (match D[j]? with | some d=>Ny nm (yO D nm (LL k) j) d | none=>yO D nm (LL k) j)= _;rw[h]
   have HIP:Hid (∀j,(IN j)[k]? =some nm):=ay fun j=>by rw[Ry];exact tq (AY D nm (LL k) j) hnm
   have HIL:Hid (∀j,j<=10->(IN j).length<=21):=ay fun j hj=>by rw[Ry];have:=Qx D nm (LL k) j;have:=HN.out;have:=ais.out;omega
   rw[<-Ry] at HNK;clear hnm Ry hk;go_wp2
   go_loopw [5,7] (fun vo i w2=> ∃j:Nat,i=.int .i64 (j:Int)/\j<=m/\Vk w.heap.size w2 vo (IN j)/\Below w.heap.size w w2) (fun _ i _=>m - (intOf i).toNat)
   case atStart=>exact⟨0,rfl,jm _,by rw[HI0.out];exact HT.out,HB.out⟩
   case round=>
    obtain⟨j,rfl,hj,ht2,fO⟩:=hrel;by_cases hlj:j<m
    ·have DY:=ay hlj;have q8:(j:Int)<1000000:=by have:=AX.out;omega
     obtain⟨d,hd⟩:∃d,D[j]? =some d:=⟨_,kP (by have:=Sc.out;omega)⟩
     have HSJ:=ay (HIS.out j d hd);have DD:=ay (VW.out.below dpU fO (w':=wr));obtain⟨gd,kd,ed,_,_,_,hcd⟩:=(VW.out.below dpU fO (w':=wr)).os.m.form (by have:=Sc.out;omega);rw[Sc.out] at ed;cases ed
     have HDR:=ay (DD.out.bs j d hd);have HG0:Hid (wr.cell? ⟨gd,j * 3+0,none⟩=some (.string d.fr)):=ay ((hcd j (by have:=Sc.out;omega) 0 aM).trans (by rw[HDR.out.z0]));have Sd:Hid (wr.cell? ⟨gd,j * 3+1,none⟩=some (.string d.ta)):=ay ((hcd j (by have:=Sc.out;omega) 1 aM).trans (by rw[HDR.out.z1]));have HGD:Hid (gd<wr.heap.size):=ay (DD.out.os.m.lt gd rfl);have HT2:=ay ht2;have HB2:=ay fO;have hpos:0<(IN j).length:=by have:=(List.getElem?_eq_some_iff.1 (HIP.out j)).1;omega
     obtain⟨go,ko,eo,_,hnk,_,hco⟩:=ht2.m.form hpos;obtain⟨no,hno⟩:∃x,x=(IN j).length:=⟨_,rfl⟩
     have Jp:Hid (no=(IN j).length):=ay hno;have HKN:Hid (k<no):=ay (by rw[hno];exact(List.getElem?_eq_some_iff.1 (HIP.out j)).1);have Jy:Hid (wr.cell? ⟨go,k * 1,none⟩=some (.string nm)):=ay ((hco k (by have:=HKN.out;omega) 0 aM).trans (by rw[lY (HIP.out j)]));rw[<-hno] at eo;subst eo;have HGO:Hid (go<wr.heap.size):=ay (HT2.out.m.lt go rfl);have Sb:Hid (no<=21):=ay (by have:=HIL.out j (by have:=AX.out;omega);omega);clear hd hcd ht2 fO hpos hnk hco hno hj;go_upto_region 8 with(fail);by_cases VK:d.ta=nm
     case neg=>
      have HE:Hid (IN (j+1)=IN j):=ay (HSJ.out.trans (if_neg VK));have HQ:Hid (decide (d.ta=nm)=false):=ay (decide_eq_false VK);clear VK
      refine bC (n:=51) aQ aQ aQ rfl
       (fun ii vv _=>(match ii with | 0=>vv=.slice (some ⟨gd,0,none⟩) m cd | 1=>vv=.int .i64 ((j:Int)) | 2=>vv=.pointer (some ⟨gd,j * 3,none⟩) | 3=>vv=.pointer (some ⟨gd,j * 3+1,none⟩) | 4=>vv=.string d.ta | 5=>vv=.slice (some ⟨go,0,none⟩) no ko | 6=>vv=.int .i64 ((k:Int)) | 7=>vv=.pointer (some ⟨go,k * 1,none⟩) | 8=>vv=.string nm | 9 | 10 | 19=>vv=.bool false | 11 | 12 | 13 | 14 | 15 | 16 | 17 | 18=>vv=undef | _=>True))
       (fun w w'=>Below w.heap.size w w') (fun _ _ h=>h) (fun _ _ _ _ h _=>h) ?_ ?_
      ·refine dG ?_;refine⟨?_,?_,?_,?_,?_,?_,?_,?_,?_,?_,?_,?_,?_,?_,?_,?_,?_,?_,?_,?_,trivial⟩
       ·intro a w2 hB hF hd;exact aN <| aG _ (.inl rfl) aR (hF.same 0 rfl)
       ·intro a w2 hB hF hd;exact aN <| aG _ (.inl rfl) aR (hF.same 7 rfl)
       ·intro a w2 hB hF hd;exact aN <| aW (cO (i:=j) (sz:=3) rfl (hd 0 _ rfl (aj rfl)) (hd 1 _ rfl (aj rfl)) Tryz.underlying60 Tryz.sizeDp DY.out) rfl
       ·intro a w2 hB hF hd;exact aN <| aW (bB (m:=0) (k:=1) rfl (hd 2 _ rfl (aj rfl)) aQ) rfl
       ·intro a w2 hB hF hd;exact aN <| aW (eT rfl (hd 3 _ rfl (aj rfl)) yG ((hB.cell (p:=⟨gd,j * 3+1,none⟩) HGD.out).trans Sd.out)) rfl
       ·intro a w2 hB hF hd;exact aN <| aG _ (.inl rfl) aR (hF.same 5 rfl)
       ·intro a w2 hB hF hd;exact aN <| aG _ (.inl rfl) aR (hF.same 6 rfl)
       ·intro a w2 hB hF hd;exact aN <| aW (cO (i:=k) (sz:=1) rfl (hd 5 _ rfl (aj rfl)) (hd 6 _ rfl (aj rfl)) Tryz.underlying81 aQ HKN.out) rfl
       ·intro a w2 hB hF hd;exact aN <| aW (eT rfl (hd 7 _ rfl (aj rfl)) yG ((hB.cell (p:=⟨go,k * 1,none⟩) HGO.out).trans Jy.out)) rfl
       ·intro a w2 hB hF hd;exact aN <| aW (sQ rfl (hd 4 _ rfl (aj rfl)) (hd 8 _ rfl (aj rfl)) yG) (congrArg Value.bool HQ.out)
       ·intro a w2 hB hF hd;exact aN <| aG _ (.inl rfl) aR (hd 9 _ rfl (aj rfl))
       ·intro a w2 hB hF hd;rw[if_neg (by rw[dz rfl rfl (hd 10 _ rfl (aj rfl))];decide)];exact rfl
       ·intro a w2 hB hF hd;rw[if_neg (by rw[dz rfl rfl (hd 10 _ rfl (aj rfl))];decide)];exact rfl
       ·intro a w2 hB hF hd;rw[if_neg (by rw[dz rfl rfl (hd 10 _ rfl (aj rfl))];decide)];exact rfl
       ·intro a w2 hB hF hd;rw[if_neg (by rw[dz rfl rfl (hd 10 _ rfl (aj rfl))];decide)];exact rfl
       ·intro a w2 hB hF hd;rw[if_neg (by rw[dz rfl rfl (hd 10 _ rfl (aj rfl))];decide)];exact rfl
       ·intro a w2 hB hF hd;rw[if_neg (by rw[dz rfl rfl (hd 10 _ rfl (aj rfl))];decide)];exact rfl
       ·intro a w2 hB hF hd;rw[if_neg (by rw[dz rfl rfl (hd 10 _ rfl (aj rfl))];decide)];exact rfl
       ·intro a w2 hB hF hd;rw[if_neg (by rw[dz rfl rfl (hd 10 _ rfl (aj rfl))];decide)];exact rfl
       ·intro a w2 hB hF hd;exact aN <| aW (jN rfl (hd 10 _ rfl (aj rfl))) (rfl)
      ·intro a w5 hB hF hS;have ha:=aO rfl rfl hF [_,_,_,_,_,_,_,_,_,_,_,_,_,_,_,_,_,_,_,_] rfl ⟨hS 0 _ rfl,hS 1 _ rfl,hS 2 _ rfl,hS 3 _ rfl,hS 4 _ rfl,hS 5 _ rfl,hS 6 _ rfl,hS 7 _ rfl,hS 8 _ rfl,hS 9 _ rfl,hS 10 _ rfl,hS 11 _ rfl,hS 12 _ rfl,hS 13 _ rfl,hS 14 _ rfl,hS 15 _ rfl,hS 16 _ rfl,hS 17 _ rfl,hS 18 _ rfl,hS 19 _ rfl,trivial⟩;simp only[puts,Act.put,fB,fD,fF] at ha;subst ha;clear hS hF;have HT5:=ay (HT2.out.below hB);have VZ:=ay (HB2.out.trans (hB.mono HB2.out.size));clear hB;go_wp2;go_roundw
       case rel=>exact⟨j+1,by go_num,DY.out,by rw[HE.out];exact HT5.out,VZ.out⟩
       case measure=>have:=DY.out;simp[intOf] <;> omega
     case pos=>
      have Vx:Hid (IN (j+1)=addN (IN j) d.fr):=ay (HSJ.out.trans (if_pos VK));have HQ:Hid (decide (d.ta=nm)=true):=ay (decide_eq_true VK);obtain⟨bi,hbi,_⟩:=abL (IN j) _ d.fr wr (by have:=HT2.out.m.mat;exact this) (by have:=Sb.out;have:=Jp.out;omega);have HBI:=ay hbi;have HIN:Hid (∀w',Below wr.heap.size wr w'->Calls Tryz.prog 56 #[.slice (some ⟨go,0,none⟩) no ko,.string d.fr] w' fun e w2=>e=.returned (.bool bi)/\Below w'.heap.size w' w2):=ay fun w' hb'=>by
       refine(Bd bi (IN j) _ d.fr w' ((HT2.out.below hb').m.mat) (by have:=Sb.out;have:=Jp.out;omega) HBI.out).mono ?_;rintro e w2 ⟨rfl,rfl⟩;exact⟨rfl,bT _ _⟩
      clear VK hbi
      refine bC (n:=51) aQ aQ aQ rfl
       (fun ii vv _=>(match ii with | 0 | 12=>vv=.slice (some ⟨gd,0,none⟩) m cd | 1 | 13=>vv=.int .i64 ((j:Int)) | 2 | 14=>vv=.pointer (some ⟨gd,j * 3,none⟩) | 3=>vv=.pointer (some ⟨gd,j * 3+1,none⟩) | 4=>vv=.string d.ta | 5 | 11=>vv=.slice (some ⟨go,0,none⟩) no ko | 6=>vv=.int .i64 ((k:Int)) | 7=>vv=.pointer (some ⟨go,k * 1,none⟩) | 8=>vv=.string nm | 9 | 10=>vv=.bool true | 15=>vv=.pointer (some ⟨gd,j * 3+0,none⟩) | 16=>vv=.string d.fr | 17=>vv=.bool bi | 18 | 19=>vv=.bool (!(bi)) | _=>True))
       (fun w w'=>Below w.heap.size w w') (fun _ _ h=>h) (fun _ _ _ _ h _=>h) ?_ ?_
      ·refine dG ?_;refine⟨?_,?_,?_,?_,?_,?_,?_,?_,?_,?_,?_,?_,?_,?_,?_,?_,?_,?_,?_,?_,trivial⟩
       ·intro a w2 hB hF hd;exact aN <| aG _ (.inl rfl) aR (hF.same 0 rfl)
       ·intro a w2 hB hF hd;exact aN <| aG _ (.inl rfl) aR (hF.same 7 rfl)
       ·intro a w2 hB hF hd;exact aN <| aW (cO (i:=j) (sz:=3) rfl (hd 0 _ rfl (aj rfl)) (hd 1 _ rfl (aj rfl)) Tryz.underlying60 Tryz.sizeDp DY.out) rfl
       ·intro a w2 hB hF hd;exact aN <| aW (bB (m:=0) (k:=1) rfl (hd 2 _ rfl (aj rfl)) aQ) rfl
       ·intro a w2 hB hF hd;exact aN <| aW (eT rfl (hd 3 _ rfl (aj rfl)) yG ((hB.cell (p:=⟨gd,j * 3+1,none⟩) HGD.out).trans Sd.out)) rfl
       ·intro a w2 hB hF hd;exact aN <| aG _ (.inl rfl) aR (hF.same 5 rfl)
       ·intro a w2 hB hF hd;exact aN <| aG _ (.inl rfl) aR (hF.same 6 rfl)
       ·intro a w2 hB hF hd;exact aN <| aW (cO (i:=k) (sz:=1) rfl (hd 5 _ rfl (aj rfl)) (hd 6 _ rfl (aj rfl)) Tryz.underlying81 aQ HKN.out) rfl
       ·intro a w2 hB hF hd;exact aN <| aW (eT rfl (hd 7 _ rfl (aj rfl)) yG ((hB.cell (p:=⟨go,k * 1,none⟩) HGO.out).trans Jy.out)) rfl
       ·intro a w2 hB hF hd;exact aN <| aW (sQ rfl (hd 4 _ rfl (aj rfl)) (hd 8 _ rfl (aj rfl)) yG) (congrArg Value.bool HQ.out)
       ·intro a w2 hB hF hd;exact aN <| aG _ (.inl rfl) aR (hd 9 _ rfl (aj rfl))
       ·intro a w2 hB hF hd;refine aT (aX rfl rfl (hd 10 _ rfl (aj rfl)) rfl) ?_;exact aG _ (.inl rfl) aR (hF.same 5 rfl)
       ·intro a w2 hB hF hd;refine aT (aX rfl rfl (hd 10 _ rfl (aj rfl)) rfl) ?_;exact aG _ (.inl rfl) aR (hF.same 0 rfl)
       ·intro a w2 hB hF hd;refine aT (aX rfl rfl (hd 10 _ rfl (aj rfl)) rfl) ?_;exact aG _ (.inl rfl) aR (hF.same 7 rfl)
       ·intro a w2 hB hF hd;refine aT (aX rfl rfl (hd 10 _ rfl (aj rfl)) rfl) ?_;exact aW (cO (i:=j) (sz:=3) rfl (hd 12 _ rfl (aj rfl)) (hd 13 _ rfl (aj rfl)) Tryz.underlying60 Tryz.sizeDp DY.out) rfl
       ·intro a w2 hB hF hd;refine aT (aX rfl rfl (hd 10 _ rfl (aj rfl)) rfl) ?_;exact aW (bB (m:=0) (k:=0) rfl (hd 14 _ rfl (aj rfl)) aQ) rfl
       ·intro a w2 hB hF hd;refine aT (aX rfl rfl (hd 10 _ rfl (aj rfl)) rfl) ?_;exact aW (eT rfl (hd 15 _ rfl (aj rfl)) yG ((hB.cell (p:=⟨gd,j * 3+0,none⟩) HGD.out).trans HG0.out)) rfl
       ·intro a w2 hB hF hd;refine aT (aX rfl rfl (hd 10 _ rfl (aj rfl)) rfl) ?_;refine aI _ _ _ rfl Tryz.call56 _ (args2 (hd 11 _ rfl (aj rfl)) (hd 16 _ rfl (aj rfl))) aR ((HIN.out w2 hB).mono ?_);rintro e w3 ⟨rfl,hb⟩;exact⟨_,rfl,rfl,hb⟩
       ·intro a w2 hB hF hd;refine aT (aX rfl rfl (hd 10 _ rfl (aj rfl)) rfl) ?_;exact aW (pJ rfl (hd 17 _ rfl (aj rfl))) rfl
       ·intro a w2 hB hF hd;exact aN <| aW (jN rfl (hd 10 _ rfl (aj rfl))) ((hd 18 _ rfl (aj rfl)))
      ·intro a w5 hB hF hS;have ha:=aO rfl rfl hF [_,_,_,_,_,_,_,_,_,_,_,_,_,_,_,_,_,_,_,_] rfl ⟨hS 0 _ rfl,hS 1 _ rfl,hS 2 _ rfl,hS 3 _ rfl,hS 4 _ rfl,hS 5 _ rfl,hS 6 _ rfl,hS 7 _ rfl,hS 8 _ rfl,hS 9 _ rfl,hS 10 _ rfl,hS 11 _ rfl,hS 12 _ rfl,hS 13 _ rfl,hS 14 _ rfl,hS 15 _ rfl,hS 16 _ rfl,hS 17 _ rfl,hS 18 _ rfl,hS 19 _ rfl,trivial⟩;simp only[puts,Act.put,fB,fD,fF] at ha;subst ha;clear hS hF;have HT5:=ay (HT2.out.below hB);have VZ:=ay (HB2.out.trans (hB.mono HB2.out.size));have HG5:Hid (w5.cell? ⟨gd,j * 3+0,none⟩=some (.string d.fr)):=ay ((hB.cell (p:=⟨gd,j * 3+0,none⟩) HGD.out).trans HG0.out);have arp:Hid (gd<w5.heap.size):=ay (qZ HGD.out hB.size);clear hB HIN HG0 Sd Jy
       cases bi with
       | true=>
        have HE:Hid (IN (j+1)=IN j):=ay (Vx.out.trans (RV (HBI.out.1 rfl)));simp only[Bool.not_true,Bool.not_false];go_wp2;go_roundw
        case rel=>exact⟨j+1,by go_num,DY.out,by rw[HE.out];exact HT5.out,VZ.out⟩
        case measure=>have:=DY.out;simp[intOf] <;> omega
       | false=>
        have HE:Hid (IN (j+1)=IN j++ [d.fr]):=ay (Vx.out.trans (if_neg fun h=>by have:=HBI.out.2 h;cases this));simp only[Bool.not_true,Bool.not_false];go_upto_region 9 with(fail)
        refine pK (n:=51) 7 aM aQ aQ aQ aQ rfl
         (fun ii vv ww=>(match ii with | 0=>vv=.slice (some ⟨go,0,none⟩) no ko | 1=>vv=.slice (some ⟨gd,0,none⟩) m cd | 2=>vv=.int .i64 ((j:Int)) | 3=>vv=.pointer (some ⟨gd,j * 3,none⟩) | 4=>vv=.pointer (some ⟨gd,j * 3+0,none⟩) | 5=>vv=.string d.fr | _=>True)/\(ii=6->LtB ww vv 9 #[.string d.fr]))
         (fun i v w w' h hE=>⟨h.1,fun e=>LtB.below (h.2 e) hE⟩) ?_ ?_
        ·refine dG ?_;refine⟨?_,?_,?_,?_,?_,?_,?_,(aP),(aP),trivial⟩
         ·intro _ a w2 hB hF hd;exact aN <| aG _ (.inl rfl) aR ⟨(hF.same 5 rfl),aP⟩
         ·intro _ a w2 hB hF hd;exact aN <| aG _ (.inl rfl) aR ⟨(hF.same 0 rfl),aP⟩
         ·intro _ a w2 hB hF hd;exact aN <| aG _ (.inl rfl) aR ⟨(hF.same 7 rfl),aP⟩
         ·intro _ a w2 hB hF hd;exact aN <| aW (cO (i:=j) (sz:=3) rfl ((hd 1 _ rfl (aj rfl)).1) ((hd 2 _ rfl (aj rfl)).1) Tryz.underlying60 Tryz.sizeDp DY.out) ⟨rfl,aP⟩
         ·intro _ a w2 hB hF hd;exact aN <| aW (bB (m:=0) (k:=0) rfl ((hd 3 _ rfl (aj rfl)).1) aQ) ⟨rfl,aP⟩
         ·intro _ a w2 hB hF hd;exact aN <| aW (eT rfl ((hd 4 _ rfl (aj rfl)).1) yG ((hB.cell (p:=⟨gd,j * 3+0,none⟩) arp.out).trans HG5.out)) ⟨rfl,aP⟩
         ·intro _ a w2 hB hF hd;exact aN <| yc rfl Tryz.underlying81 ((hd 5 _ rfl (aj rfl)).1) aQ aR ⟨trivial,fun _=>(⟨_,rfl,heap_alloc_new _ _⟩)⟩
        ·intro a w6 hB hF hS;obtain⟨x48,agt⟩:∃x,x=a.tmps.getD 48 undef:=⟨_,rfl⟩
         have P48:LtB w6 x48 9 #[.string d.fr] :=by rw[agt];exact(hS 6 _ rfl aM).2 rfl
         have ha:=aO rfl rfl hF [_,_,_,_,_,_,x48] rfl ⟨(hS 0 _ rfl aM).1,(hS 1 _ rfl aM).1,(hS 2 _ rfl aM).1,(hS 3 _ rfl aM).1,(hS 4 _ rfl aM).1,(hS 5 _ rfl aM).1,agt.symm,trivial⟩;simp only[puts,List.take_succ_cons,List.take_zero,Act.put,fB,fD,fF] at ha;subst ha;change tl _ _ _ (_::_:: []) _ _;clear agt;clear hS hF;have HT6:=ay (HT5.out.below hB);have HB6:=ay (VZ.out.trans (hB.mono VZ.out.size));obtain⟨b9,e9,hl9⟩:=P48;subst e9;have HC9:Hid (∀j,j<1->∀i,i<1->w6.cell? ⟨b9,0+(j * 1+i),none⟩=some ((fun _ _=>(.string d.fr:Value)) j i)/\((fun _ _=>(.string d.fr:Value)) j i).oneCell'=true):=ay fun j hj i hi=>by
          obtain rfl:j=0:=by omega
          obtain rfl:i=0:=by omega
          exact⟨cell_of_row _ _ 0 _ _ (0,0) hl9,rfl⟩
         have HM6:Hid (iA 9 1 w6 (.slice (some ⟨go,0,none⟩) no ko) no (lv sj (IN j))):=ay (by have:=HT6.out.m;rwa [<-Jp.out] at this);clear hB hl9;refine rz rfl (sH _ _ rfl rfl HM6.out aM Tryz.underlying81 Tryz.infoString rfl b9 0 1 1 rfl (fun _ _=>.string d.fr) HC9.out (by have:=Sb.out;unfold maxLen;omega) (by have:=Sb.out;omega) ?_);intro v8 w8 Ui hg8 hp8;have HT8:Hid (Vk w.heap.size w8 v8 (IN (j+1))):=ay ⟨by
          rw[HE.out];rw[Jp.out] at Ui;exact iA.snoc Ui rfl,fun b hb=>by
          rcases hp8 with h | h
          ·exact HT6.out.n b (h▸hb)
          ·exact iw HB6.out.size (h b hb)⟩
         have HB8:=ay (HB6.out.trans ((fV.jP (F:=fun b=>w.heap.size<=b) hg8 (fun b hb=>HT6.out.n b hb)).below HB6.out.size fun b hb=>hb));clear Ui hg8 hp8;refine AZ rfl _ (.inr rfl) (BP ?_);simp only[Act.put,Act.eval,fB,fD,fF];go_wp2;go_roundw
         case rel=>exact⟨j+1,by go_num,DY.out,HT8.out,HB8.out⟩
         case measure=>have:=DY.out;simp[intOf] <;> omega
    ·obtain rfl:j=m:=by omega
     have HT2:=ay ht2;have HB2:=ay fO;have HLN:Hid (k+1<=(LL (k+1)).length):=ay (by
      rw[<-HNK.out];have:=(List.getElem?_eq_some_iff.1 (HIP.out j)).1;omega)
     clear ht2 fO hlj hj;go_wp2;go_roundw
     case rel=>exact⟨k+1,by go_num,HLN.out,by rw[<-HNK.out];exact HT2.out,HB2.out⟩
     case measure=>have:=wN.out;have:=ais.out;simp[intOf] <;> omega
  ·have HKE:Hid ((LL k).length=k):=ay (by have:=HN.out;omega);have q0:¬ (k:Int)<(n:Int):=by omega
   clear hlt hk;go_wp2;go_ret;exact⟨_,rfl,by rw[<-adR.out k HKE.out];exact HT.out,HB.out⟩
theorem Us {F:Nat->Prop} {w:World} {vl:Value} {D:List qG} {qd:Nat->Nat->Value} (hD:uX (Jz F) 66 3 w vl D qd) (hm:D.length<=10) (hok:∀d ∈ D,Lc d.fr/\Lc d.ta) (me:ByteArray) (hme:Lc me):Calls Tryz.prog 54 #[vl,sj me] w fun e w'=> ∃va,e=.returned va/\Vk w.heap.size w' va (sM (je (D.map wJ)) [me]).1/\Below w.heap.size w w':=by
 have VW:=ay hD;have HM:=ay hm;have yM:=ay hok;have HME:=ay hme;obtain⟨ad,cd,rfl,_,_⟩:=hD.os.m.slice;obtain⟨m,hmm⟩:∃m,m=D.length:=⟨_,rfl⟩
 have Sc:Hid (D.length=m):=ay hmm.symm;have AX:Hid (m<=10):=ay aH;rw[<-hmm] at VW ⊢;obtain⟨B,hB⟩:∃x,x=w.heap.size:=⟨_,rfl⟩
 have HB:=ay hB;rw[<-hB];clear hD hm hok hme hmm hB
 go_enter Tryz.func54,Tryz.ntmps54
 go_wp2_with fail;refine(OG w).mono ?_;rintro e w1 ⟨p,G,rfl,h1,b1⟩;have H1:=ay h1;have B1:=ay b1;rw[<-HB.out] at H1 B1;clear h1 b1;go_wp2
 go_loopw [11] (fun i wr=> ∃k:Nat,k<=m/\i=.int .i64 (k:Int)/\(∃G,VB B wr p G (je ((D.take k).map wJ)))/\Below B w wr) (fun i _=>m - (intOf i).toNat)
 case atStart=>exact⟨0,jm _,rfl,⟨G,H1.out⟩,B1.out⟩
 case round=>
  obtain⟨k,hk,rfl,⟨G1,hG⟩,Pn⟩:=hrel;have HG:=ay hG;have rR:=ay Pn;have HBW:Hid (Below w.heap.size w wr):=ay (HB.out▸Pn);clear hG Pn;by_cases hlt:k<m
  ·obtain⟨gd,kd,ed,_,_,_,hcd⟩:=(VW.out.below dpU HBW.out).os.m.form (by have:=Sc.out;omega);rw[Sc.out] at ed;cases ed
   obtain⟨d,hd⟩:∃d,D[k]? =some d:=⟨_,kP (by have:=Sc.out;omega)⟩
   have HDR:=ay ((VW.out.below dpU HBW.out).bs k d hd);have uY:Hid (∀i,i<3->wr.cell? ⟨gd,k * 3+i,none⟩=some (qd k i)):=ay fun i hi=>hcd k (by have:=Sc.out;omega) i hi;have HDK:=ay hd;have Jy:=ay (yM.out d (List.mem_of_getElem? hd));have HDO:=ay HDR.out.one;have hk9:(k:Int)<1000000:=by have:=AX.out;omega
   clear hcd hd;go_upto_region 5 with(first | (refine jl rfl rfl rfl Tryz.underlying66 rfl Tryz.sizeDp uY.out ?_) | (refine gU rfl 66 _ _ rfl wr.heap.size 3 (qd k) _ 66 (heap_alloc_new _ _) rfl Tryz.sizeDp rfl rfl HDO.out ?_));refine aJ (fun w5=>iM w5 wr.heap.size 3 66 (qd k)/\Below wr.heap.size wr w5) ⟨iM.setRow (heap_alloc_new _ _),aB ((bT _ _).alloc (bH _) _) (bH _) _⟩ ?_;rintro w5 ⟨hr5,lW⟩;have e0:w5.cell? ⟨wr.heap.size,0,none⟩=some (.string d.fr):=(hr5.2 0 aM).trans (by rw[HDR.out.z0]);have e1:w5.cell? ⟨wr.heap.size,1,none⟩=some (.string d.ta):=(hr5.2 1 aM).trans (by rw[HDR.out.z1]);have G5:=ay (HG.out.below lW);have B5:=ay (rR.out.trans (lW.mono (by have:=rR.out.size;have:=HB.out;omega)));have zI:=ay (show B<=w5.heap.size by have:=B5.out.size;have:=HB.out;omega);clear hr5 lW;go_wp2_with fail;refine(Uu G5.out zI.out d.ta d.fr Jy.out.2 Jy.out.1 (iw (qM _) (by rw[List.length_map,List.length_take];have:=AX.out;have:=Sc.out;omega))).mono ?_;rintro e w6 ⟨rfl,G',Uj,hc6,_⟩;have HG6:Hid (∃G,VB B w6 p G (je ((D.take (k+1)).map wJ))):=by
    refine⟨G',?_⟩;rw[List.take_add_one,HDK.out,Option.toList_some,List.map_append,List.map_singleton];exact(wC ((D.take k).map wJ) (wJ d)).symm▸Uj
   have HB6:=ay (B5.out.trans (hc6.below zI.out fun b hb=>G5.out.hi hb));clear Uj hc6 e0 e1;go_wp2;go_roundw
   case rel=>exact⟨k+1,by omega,by go_num,HG6.out,HB6.out⟩
   case measure=>simp[intOf] <;> omega
  ·obtain rfl:k=m:=by omega
   have HG9:Hid (∃G,VB B wr p G (je (D.map wJ))):=ay (by have:=HG.out;rw[<-Sc.out,List.take_length] at this;exact⟨_,this⟩);obtain⟨G9,hG9⟩:=HG9.out;have G9':=ay hG9;clear hG9 hlt hk;go_wp2_with fail;have BA:=(bT wr.heap.size wr).alloc (bH _) (.cells [sj me].toArray 9);have HMT:=(iA.new wr 9 1 (cs:= [sj me].toArray) (n:=1) (q:=lv sj [me]) (by unfold maxLen;decide) rfl (fun j hj i hi=>by
    obtain rfl:j=0:=by omega
    obtain rfl:i=0:=by omega
    rfl)).mat
   refine(Oe (G9'.out.below BA) [me] _ HMT (fun x hx=>by obtain rfl:=List.mem_singleton.1 hx;exact HME.out) (show 1<=1000 by decide) (iw (qM _) (by rw[List.length_map];have:=HM.out;omega))).mono ?_;rintro e w7 ⟨va,rfl,h7,n7,b7⟩;have H7:Hid (Vk w.heap.size w7 va (sM (je (D.map wJ)) [me]).1):=ay ⟨h7,fun b hb=>iw (iw HBW.out.size BA.size) (n7 b hb)⟩;have B7:Hid (Below B w w7):=ay (rR.out.trans ((BA.trans (b7.mono BA.size)).mono (by have:=rR.out.size;have:=HB.out;omega)));obtain⟨a7,c7,rfl,_⟩:=h7.slice;clear h7 n7 b7 BA HMT;go_wp2;go_ret;exact⟨_,rfl,HB.out▸H7.out,B7.out⟩
section
variable {B : Nat} {w w' : World} {p m j : Nat} {F : Nat -> Prop} {X : Su} {vr vl vs : Value} {ro : List mD} {qr qd : Nat -> Nat -> Value} {D : List qG} {P : Nat -> mD} {sc : Nat -> List Int} {of : ByteArray}
theorem Mg (hR:uX (Ec F) 78 3 w vr ro qr) (hp:(mG ro of).2=false) (hl:∃a n c,vl=.slice a n c) (hs:∃a n c,vs=.slice a n c) (me:ByteArray):Calls Tryz.prog 55 #[.pointer (some ⟨p,0,none⟩),vr,vl,.string me,vs,.string of] w fun e w'=>e=.returned (.tuple #[.slice none 0 0,.int .i64 41])/\Below w.heap.size w w':=by
 have HPC:=ay (rP (nm:=of) hR);rw[hp] at HPC;obtain⟨ar,cr,rfl,_⟩:=hR.os.m.slice;obtain⟨al,nl,cl,rfl⟩:=hl;obtain⟨as_,ns,cs,rfl⟩:=hs;obtain⟨nr,hnr⟩:∃n,n=ro.length:=⟨_,rfl⟩
 rw[<-hnr] at HPC ⊢;clear hR hp hnr
 go_enter Tryz.func55,Tryz.ntmps55
 go_wp2_with fail;refine HPC.out.mono ?_;rintro e w6 ⟨zp,rfl,hzp,b6⟩;have B6:=ay b6;go_upto_region 2 with(refine gU rfl 78 _ _ rfl w6.heap.size 3 zp _ 78 (heap_alloc_new _ _) rfl Tryz.sizePs rfl rfl hzp.one ?_);refine aJ (fun w7=>Below w.heap.size w w7) (b6.trans ((aB ((bT _ _).alloc (bH _) _) (bH _) _:Below w6.heap.size w6 _).mono b6.size)) ?_;rintro w7 b7;have B7:=ay b7;clear b6 b7 hzp;go_wp2;go_ret2;exact⟨rfl,B7.out⟩
theorem IJ (b:Bool) (h:uW B w p F X) (hX:X.size<=600) (hR:uX (Ec F) 78 3 w vr ro qr) (hRn:∀b,vr.ownBlock=some b->¬ (b=p\/F b)) (hD:uX (Jz F) 66 3 w vl D qd) (hDn:∀b,vl.ownBlock=some b->¬ (b=p\/F b)) (hs:eG F w vs (sc m)) (hsl:(sc m).length<=100) (hm:D.length<=10) (hT:RtD B ro P sc X D) (hm5:m<5) (hj5:j<5) (hb:b=true ↔ dW j ∈ (sM (je (D.map wJ)) [dW m]).1):
  Calls Tryz.prog 55 #[.pointer (some ⟨p,0,none⟩),vr,vl,.string (dW m),vs,.string (dW j)] w fun e w'=> ∃u,e=.returned (.tuple #[u,.int .i64 (if b then 0 else 40)])/\(bM B).Res w p F u (if b then (sc j,0,X) else ([],40,X)) w':=by
 have HPC:=ay (rP (nm:=dW j) hR);rw[hT.per j hj5] at HPC;have Vy:Hid (∀w',Below w.heap.size w w'->Calls Tryz.prog 48 #[.pointer (some ⟨p,0,none⟩),vr,vl,.string (dW m),vs] w' fun e w2=> ∃i vo,e=.returned (.tuple #[vo,.bool false])/\AlR X sc (sM (je (D.map wJ)) [dW m]).1 ((bM B).all ro D ⟨X, [⟨dW m,sc m⟩],false⟩ i)/\∃F' qo,Bz (bM B).toEng w' p F w2 vo ((bM B).all ro D ⟨X, [⟨dW m,sc m⟩],false⟩ i) F' qo):=ay fun w' hb'=>by
  refine(zy (E:=(bM B).toEng) (me:=dW m) (h.below hb') (hR.below psU hb') hRn (hD.below dpU hb') hDn (hs.below hb') hm (fun j d hd=>by obtain⟨a,c,_,_,_,_,h5,_⟩:=hT.dep d (List.mem_of_getElem? hd);exact h5) (iw hsl aM) hX).mono ?_;rintro e w2 ⟨i,vo,rfl,hi,hal⟩;have hr:=RU hT hm5 hi;exact⟨i,vo,by rw[hr.bad],hr,hal⟩
 have HB:=ay hb;have HJ5:=ay hj5;have AX:Hid (D.length<=10):=ay hm;obtain⟨ar,cr,er,_⟩:=hR.os.m.slice;obtain⟨nr,hnr⟩:∃n,n=ro.length:=⟨_,rfl⟩
 rw[<-hnr] at er;subst er;obtain⟨ad,cd,ed,_⟩:=hD.os.m.slice;obtain⟨nd,hnd⟩:∃n,n=D.length:=⟨_,rfl⟩
 rw[<-hnd] at ed;subst ed;obtain⟨as_,cs,es⟩:=hs.slice;obtain⟨ns,hns⟩:∃n,n=(sc m).length:=⟨_,rfl⟩
 rw[<-hns] at es;subst es;have HFH:Hid (∀b,(b=p\/F b)->b<w.heap.size):=ay fun b hb=>h.lt hb;clear h hX hR hRn hD hDn hs hsl hm hT hb hnr hnd hns
 go_enter Tryz.func55,Tryz.ntmps55
 go_wp2_with fail;refine HPC.out.mono ?_;rintro e w6 ⟨zp,rfl,hzp,b6⟩;go_upto_region 2 with(refine gU rfl 78 _ _ rfl w6.heap.size 3 zp _ 78 (heap_alloc_new _ _) rfl Tryz.sizePs rfl rfl hzp.one ?_);refine aJ (fun w7=>Below w.heap.size w w7) (b6.trans ((aB ((bT _ _).alloc (bH _) _) (bH _) _:Below w6.heap.size w6 _).mono b6.size)) ?_;rintro w7 b7;have B7:=ay b7;clear b6 b7 hzp;go_wp2_with fail;refine(Vy.out w7 B7.out).mono ?_;rintro e w8 ⟨i,vo,rfl,hal,F8,qo,hA⟩;obtain⟨s,hs⟩:∃s:EU Su,s=(bM B).all ro D ⟨X, [⟨dW m,sc m⟩],false⟩ i:=⟨_,rfl⟩
 rw[<-hs] at hal;have A8:Hid (Bz (bM B).toEng w7 p F w8 vo s F8 qo):=ay (hs▸hA);have AR:=ay hal;obtain⟨ao,co,eo,_⟩:=A8.out.ou.os.m.slice;obtain⟨n,hn⟩:∃n,n=s.out.length:=⟨_,rfl⟩
 rw[<-hn] at eo;subst eo;have HN:Hid (n=s.out.length):=ay hn;have Vr:Hid (n<=11):=ay (by
  have h1:=BZ (je (D.map wJ)) [dW m];rw[<-AR.out.nm,List.length_map] at h1;have h2:=qM (D.map wJ);rw[List.length_map] at h2;have h3:([dW m] :List ByteArray).length=1:=rfl;have:=AX.out;omega)
 clear hal hA hs hn;go_wp2
 go_loopw [39] (fun i wr=> ∃k:Nat,k<=n/\i=.int .i64 (k:Int)/\Bz (bM B).toEng w7 p F wr (.slice ao n co) s F8 qo/\∀(j':Nat) g,j'<k->s.out[j']? =some g->g.nm≠dW j) (fun i _=>n - (intOf i).toNat)
 case atStart=>exact⟨0,jm _,rfl,A8.out,fun j' g hj=>absurd hj (Nat.not_lt_zero _)⟩
 case round=>
  obtain⟨k,hk,rfl,hA,hno⟩:=hrel;have A:=ay hA;have Jp:=ay hno;by_cases hlt:k<n
  ·obtain⟨go,ko,eo,_,_,_,hco⟩:=hA.ou.os.m.form (by have:=HN.out;omega);rw[<-HN.out] at eo;cases eo
   obtain⟨g,hg⟩:∃g,s.out[k]? =some g:=⟨_,kP (by have:=HN.out;omega)⟩
   have HHD:=ay (hA.ou.bs k g hg);have HGK:=ay hg;have uY:Hid (∀i,i<2->wr.cell? ⟨go,k * 2+i,none⟩=some (qo k i)):=ay fun i hi=>hco k (by have:=HN.out;omega) i hi;have HHO:=ay HHD.out.one;have q9:(k:Int)<1000000:=by have:=Vr.out;omega
   clear hA hno hco hg;go_upto_region 8 with(first | (refine jl rfl rfl rfl Tryz.underlying71 rfl Tryz.sizeHdC uY.out ?_) | (refine gU rfl 71 _ _ rfl wr.heap.size 2 (qo k) _ 71 (heap_alloc_new _ _) rfl Tryz.sizeHdC rfl rfl HHO.out ?_));refine aJ (fun w9=>iM w9 wr.heap.size 2 71 (qo k)/\Below wr.heap.size wr w9) ⟨iM.setRow (heap_alloc_new _ _),aB ((bT _ _).alloc (bH _) _) (bH _) _⟩ ?_;rintro w9 ⟨hr9,hb9⟩;have A9:=ay (A.out.below hb9);have H9:=ay (HHD.out.below hb9);obtain⟨Si,Av⟩:∃x,x=wr.heap.size:=⟨_,rfl⟩
   rw[<-Av] at hr9 ⊢;obtain⟨a3,c3,e3⟩:=H9.out.z1.slice;have e0:w9.cell? ⟨Si,0,none⟩=some (.string g.nm):=(hr9.2 0 aM).trans (by rw[H9.out.z0]);have e1:w9.cell? ⟨Si,1,none⟩=some (.slice a3 g.sc.length c3):=(hr9.2 1 aM).trans (by rw[e3]);obtain⟨ls,hls⟩:∃n,n=g.sc.length:=⟨_,rfl⟩
   rw[<-hls] at e1 e3;have HE3:=ay e3;clear hr9 hb9 Av e3 hls uY;by_cases hnm:g.nm=dW j
   ·have hbq:(g.nm.toList==(dW j).toList)=true:=yx hnm;have HBT:Hid (b=true):=ay (HB.out.2 (by rw[<-AR.out.nm];exact List.mem_map.2 ⟨g,List.mem_of_getElem? HGK.out,hnm⟩));have HSC:Hid (g.sc=sc j):=ay (by
     obtain⟨i',hi',rfl⟩:=AR.out.ok g (List.mem_of_getElem? HGK.out);rw[Bg hi' HJ5.out hnm])
    clear hnm;obtain rfl:=HBT.out;go_wp2;go_ret2;have hy:eG F8 w9 (.slice a3 ls c3) (sc j):=by rw[<-HSC.out,←HE3.out];exact H9.out.z1
    exact⟨_,rfl,F8,AR.out.x▸A9.out.m,hy,(lg.of_below B7.out F).trans A9.out.ch fun b hb=>.inl hb,fun b hb=>(A9.out.fo b hb).imp id fun h=>iw B7.out.size h⟩
   ·have hbq:(g.nm.toList==(dW j).toList)=false:=yA hnm;have Vq:Hid (∀(j':Nat) g',j'<k+1->s.out[j']? =some g'->g'.nm≠dW j):=ay fun j' g' hj' hg'=>by
     by_cases e:j'=k
     ·subst e;rw[HGK.out] at hg';obtain rfl:=gJ hg';exact hnm
     ·exact Jp.out j' g' aH hg'
    clear hnm;go_wp2;go_roundw
    case rel=>exact⟨k+1,by omega,by go_num,A9.out,Vq.out⟩
    case measure=>simp[intOf] <;> omega
  ·obtain rfl:k=n:=by omega
   have HBF:Hid (b=false):=ay (Bool.eq_false_iff.2 fun hb=>by
    have hm:=HB.out.1 hb;rw[<-AR.out.nm] at hm;obtain⟨g,hg,hnm⟩:=List.mem_map.1 hm;obtain⟨j',hj',e⟩:=List.mem_iff_getElem.1 hg;exact Jp.out j' g (by have:=HN.out;omega) (by rw[kP hj',e]) hnm)
   clear hA hno hlt hk;obtain rfl:=HBF.out;go_wp2;go_ret2;exact⟨_,rfl,F8,AR.out.x▸A.out.m,eG.nil _ _,(lg.of_below B7.out F).trans A.out.ch fun b hb=>.inl hb,fun b hb=>(A.out.fo b hb).imp id fun h=>iw B7.out.size h⟩
end
def Sj (b:Bool) (sd:Nat->Int) (i:Nat):Value:=if i=0 then .bool b else .int .u8 (sd (i - 1))
theorem JC (b:Bool) (sd:Nat->Int):Vj b sd=.agg (gV 33 (Sj b sd)):=by kernel_rfl
theorem Tryz.sizeWayE:(Tryz.prog.info? 74).map (·.size)=some 33:=by kernel_rfl
section
variable {B : Nat} {w w' w0 w1 w2 w3 : World} {p : Nat} {F F' F0 : Nat -> Prop} {v u vr vs : Value} {ro : List mD} {ss : List (List Int)} {qr qs : Nat -> Nat -> Value} {E : kS B} {R : List Int × Int × E.σ} {L : List (Value × List Int)}
end
def XQ:ByteArray:=⟨#[110,111,98,111,100,121]⟩
theorem acn (i:Nat):dW i≠XQ:=fun h=>absurd (congrArg ByteArray.size h) (show ¬ ((1:Nat)=6) by decide)
theorem OE (i:Nat):Lc (dW i):=show (1:Nat)<=9223372036854775807 by decide
theorem afJ {ro:List mD} {x:ByteArray} {a:mD} (h:mG ro x=(a,true)):a.nm=x:=by
 unfold mG at h
 split at h
 ·rename_i b hb
  obtain rfl:b=a:=congrArg Prod.fst h;obtain⟨hk,e⟩:=List.getElem?_eq_some_iff.1 hb;have h2:=List.findIdx_getElem (p:=fun c=>decide (c=x)) (xs:=ro.map (·.nm)) (w:=by rw[List.length_map];exact hk);have h3:(ro.map (·.nm))[Bq (ro.map (·.nm)) x]'(by rw[List.length_map];exact hk)=x:=of_decide_eq_true h2;rw[List.getElem_map,e] at h3;exact h3
 ·cases congrArg Prod.snd h
theorem XC {ro:List mD} (hl:ro.length=5) (h:∀i,i<5->∃a,ro[i]? =some a/\a.nm=dW i):(mG ro XQ).2=false:=by
 have e:Bq (ro.map (·.nm)) XQ=(ro.map (·.nm)).length:=Py fun j a ha=>by
  rw[List.getElem?_map] at ha;obtain⟨q,hq,rfl⟩:=Option.map_eq_some_iff.1 ha;have hj:=(List.getElem?_eq_some_iff.1 hq).1;rw[hl] at hj;obtain⟨b,h1,h2⟩:=h j hj;rw[hq] at h1;cases h1
  rw[h2];exact acn j
 unfold mG;rw[e,List.length_map,List.getElem?_eq_none (bH _)]
theorem Vk.step {N:Nat} {w w':World} {v:Value} {L:List ByteArray} {p:Nat} {F:Nat->Prop} (h:Vk N w v L) (hn:∀b,v.ownBlock=some b->¬ (b=p\/F b)) (hc:lg p F w w'):Vk N w' v L:=⟨h.m.gL hc.gL hn,h.n⟩
theorem AA (w:World) (bw:Bool) (sd:Nat->Int) (hs:∀i,i<32->0<=sd i/\sd i<256) (v1:Value) (m:Nat) (f g:Nat->Nat) (h1:Pr2 w v1 m f g) (who:Nat->Nat):
  Calls Tryz.prog 7 #[Vj bw sd,v1,.agg (arr .u8 2 fun i=>(who i:Int))] w fun e w'=>e=.returned (.bool true)/\Below w.heap.size w w':=by
 have HWY:Hid (∀w',Calls Tryz.prog 49 #[.agg (gV 33 (Sj bw sd))] w' fun e wb=> ∃p F,e=.returned (.pointer (some ⟨p,0,none⟩))/\uW w'.heap.size wb p F (Su.new bw sd)/\Below w'.heap.size w' wb):=ay fun w'=>by
  rw[<-JC];exact SC bw sd hs w'
 obtain⟨V,hV⟩:∃V,V=Vj bw sd:=⟨_,rfl⟩
 have HVR:Hid (V=.agg (gV 33 (Sj bw sd))):=ay (hV.trans (JC bw sd));rw[<-hV];obtain⟨A,hA⟩:∃A,A=Value.agg (arr .u8 2 fun i=>(who i:Int)):=⟨_,rfl⟩
 rw[<-hA];have HAA:=ay hA;have HP1:=ay h1;obtain⟨q1,⟨al,cl,rfl,_,_,_⟩,_⟩:=h1;obtain⟨r0,hr0⟩:∃x,x=who 0 % 5:=⟨_,rfl⟩
 obtain⟨r1,hr1⟩:∃x,x=who 1 % 5:=⟨_,rfl⟩
 have HM0:Hid ((who 0:Int).tmod 5=(r0:Int)):=ay (by rw[Int.tmod_eq_emod_of_nonneg aH];omega);have HM1:Hid ((who 1:Int).tmod 5=(r1:Int)):=ay (by rw[Int.tmod_eq_emod_of_nonneg aH];omega);have RZ:Hid (r0<5):=ay aH;have HR1:Hid (r1<5):=ay aH;have HN0:Hid (∀w,Calls Tryz.prog 47 #[.int .u8 (who 0:Int)] w fun e w'=>e=.returned (.string (dW r0))/\Below w.heap.size w w'):=ay fun w=>by rw[hr0];exact xQ (who 0) w
 have HN1:Hid (∀w,Calls Tryz.prog 47 #[.int .u8 (who 1:Int)] w fun e w'=>e=.returned (.string (dW r1))/\Below w.heap.size w w'):=ay fun w=>by rw[hr1];exact xQ (who 1) w
 clear hs hV hA hr0 hr1
 go_enter Tryz.func7,Tryz.ntmps7
 go_upto_region 1 with(fail);refine aJ (fun w1=>(∀i,i<33->w1.cell? ⟨w.heap.size,0+i,none⟩=some (Sj bw sd i))/\aK .u8 w1 (w.heap.size+1) 2 (fun i=>(who i:Int))/\Below w.heap.size w w1) ?_ ?_
 ·rw[HVR.out,HAA.out];exact⟨fun i hi=>(((bT _ _).alloc (bH _) _).cell (p:=⟨w.heap.size,0+i,none⟩) aR).trans ((cell_of_row _ _ (0+i) _ _ (0,0) (heap_alloc_new w _)).trans (by rw[qY];exact xC hi)),cB aR (by rfl),((bT _ _).alloc (bH _) _).alloc aR _⟩
 rintro w1 ⟨hc1,ha1,b1⟩;have Bw:=ay hc1;have HA1:=ay ha1;have B1:=ay b1;have Vt:Hid (w.heap.size<w1.heap.size):=ay (World.block_lt_of_cell? _ _ (hc1 0 aM));obtain⟨x3,hx3⟩:∃x,x=w.heap.size:=⟨_,rfl⟩
 obtain⟨x5,hx5⟩:∃x,x=w.heap.size+1:=⟨_,rfl⟩
 rw[<-hx5] at HA1 ⊢;rw[show (Value.pointer (some ⟨w.heap.size,0,none⟩))=.pointer (some ⟨x3,0,none⟩) by rw[hx3]];have Bw:Hid (∀i,i<33->w1.cell? ⟨x3,0+i,none⟩=some (Sj bw sd i)):=hx3▸Bw;have Vt:Hid (x3<w1.heap.size):=hx3▸Vt;clear hc1 ha1 b1 hx3 hx5;go_wp2_with fail;refine(adu w1).mono ?_;rintro e wb ⟨rfl,b2⟩;have Jq:Hid (∀i,i<33->wb.cell? ⟨x3,0+i,none⟩=some (Sj bw sd i)):=ay fun i hi=>(b2.cell (p:=⟨x3,0+i,none⟩) Vt.out).trans (Bw.out i hi);have HA2:Hid (aK .u8 wb x5 2 (fun i=>(who i:Int))):=ay (HA1.out.kept b2);have B2:=ay (B1.out.trans (b2.mono B1.out.size));clear b2 Bw HA1 Vt;by_cases hm:10<m
 ·have q1:(10:Int)<(m:Int):=by omega
  clear hm;go_wp2;go_ret;exact⟨rfl,B2.out⟩
 have HM:Hid (m<=10):=ay aH;have q1:¬ (10:Int)<(m:Int):=by omega
 clear hm;go_wp2_with (refine jl rfl rfl rfl Tryz.underlying74 rfl Tryz.sizeWayE Jq.out ?_);refine(HWY.out wb).mono ?_;rintro e wu ⟨p,F,rfl,hm,b3⟩;have M3:=ay hm;have B3:=ay (B2.out.trans (b3.mono B2.out.size));have HNH:Hid (∀b,b=p\/F b->wb.heap.size<=b):=ay fun b hb=>hm.hi hb;have HA3:Hid (aK .u8 wu x5 2 (fun i=>(who i:Int))):=ay (HA2.out.kept b3);have aqR:=ay b3.size;have Qr:Hid (x5<wb.heap.size):=ay HA2.out.lt;clear hm b3 Jq HA2 q1;obtain⟨X,ro,ss,P,sc,X1,D,hus,hok,hC⟩:=ahJ wb.heap.size bw sd f g HM.out;have HUS:=ay hus;have yM:=ay hok;have C:=ay hC
 have aqF:Hid (∀w' F' (X':Su) vr vs qr qs,uo (bM wb.heap.size) wu p F w' X' F' vr vs ro ss qr qs->Below w.heap.size w w'):=ay fun w' F' X' vr vs qr qs hu=>
  B3.out.trans (hu.ch.gL.below B3.out.size fun b hb=>iw B2.out.size (HNH.out b hb))
 have Qu:Hid (∀w' F' (X':Su) vr vs qr qs,uo (bM wb.heap.size) wu p F w' X' F' vr vs ro ss qr qs->∀i,i<2->w'.cell? ⟨x5,i,none⟩=some (.int .u8 (who i:Int))):=ay fun w' F' X' vr vs qr qs hu i hi=>
  (hu.ch.gL.cell (p:=⟨x5,i,none⟩) (qZ Qr.out aqR.out) fun hf=>by have:=HNH.out x5 hf;have:=Qr.out;omega).trans (HA3.out.cell i hi)
 clear hus hok hC;go_wp2_with fail;refine(EY (E:=bM wb.heap.size) (X:=Su.new bw sd) (F:=F) M3.out (by show (Su.new bw sd).size<=800;rw[Su.XT];decide) yM.out).mono ?_;rw[HUS.out]
 dsimp only
 rintro e w4 ⟨vr,vs,rfl,F4,qr,qs,hu⟩;obtain⟨gr,kr,gs,ks,rfl,rfl⟩:=hu.forms C.out.rl C.out.sl;have HDP:Hid (Calls Tryz.prog 46 #[.pointer (some ⟨p,0,none⟩),.slice (some ⟨gr,0,none⟩) 5 kr,.slice (some ⟨gs,0,none⟩) 5 ks,.slice al m cl] w4 fun e w'=> ∃vd,e=.returned (.tuple #[vd,.bool true])/\∃F' qd,Sg (bM wb.heap.size) wu p F w' X1 F' (.slice (some ⟨gr,0,none⟩) 5 kr) (.slice (some ⟨gs,0,none⟩) 5 ks) ro ss qr qs vd D qd):=ay (by
  have h:=IU (f:=f) (g:=g) (rp:=fun i=>(P i).pb) (sp:=sc) hu (HP1.out.below B3.out) (fun hm0 b hb=>by
   have h1:=HP1.out.lt hm0 b hb;have h2:=B2.out.size;exact fun hf=>by have:=HNH.out b hf;omega) HM.out (show X.size<=860 by have:=C.out.sz;omega) C.out.rl C.out.sl (fun i hi=>⟨P i,(C.out.ps i hi).1,rfl⟩) (fun i hi=>⟨(C.out.ps i hi).2.1,by have:=(C.out.ps i hi).2.2;omega⟩) C.out.ok
  rw[C.out.dep] at h;exact h)
 have HDL:Hid (D.length<=10):=ay (by
  have h:((bM wb.heap.size).dep X (fun i=>(P i).pb) sc f g m).2.length=m:=kS.IV _ _ m;rw[C.out.dep] at h;have h:D.length=m:=h;have:=HM.out;omega)
 have Jp:Hid ((mG ro XQ).2=false):=ay (XC C.out.rl fun i hi=>⟨P i,(C.out.ps i hi).1,afJ (C.out.rt.per i hi)⟩);have HX1:Hid (X1.size<=600):=ay (iw C.out.s1 aM);have HPS:Hid (∀i,i<5->ss[i]? =some (sc i)/\(sc i).length<=100):=ay fun i hi=>(C.out.ps i hi).2;have HSL:Hid (ss.length=5):=ay C.out.sl;have HRT:=ay C.out.rt;clear hu HUS yM C;go_wp2_with fail;refine HDP.out.mono ?_;rintro e w5 ⟨vd,rfl,F5,qd,hd⟩;have I5:=ay hd;obtain⟨ad,cd,ed,_,_⟩:=hd.dl.os.m.slice;obtain⟨nd,hnd⟩:∃n,n=D.length:=⟨_,rfl⟩
 rw[<-hnd] at ed;subst ed;clear hd hnd HDP;have alR:Hid (x5<w5.heap.size):=ay (World.block_lt_of_cell? _ _ (Qu.out _ _ _ _ _ _ _ I5.out.u 0 aM));go_upto_region 10 with(fail)
 apply sW (n:=171) (fun w6=>Below w5.heap.size w5 w6) [.e,.e,.c,.e,.e,.c,.c,.c] 2 aQ aQ aQ rfl
 ·exact(bT _ _).drew
 ·intro w6 hB6;have e0:=(hB6.cell (p:=⟨x5,0,none⟩) alR.out).trans (Qu.out _ _ _ _ _ _ _ I5.out.u 0 aM);have e1:=(hB6.cell (p:=⟨x5,1,none⟩) alR.out).trans (Qu.out _ _ _ _ _ _ _ I5.out.u 1 aM);simp only[fP,Cl.Jv,cond_true,cond_false]
  repeat still_step
  exact wpStill_nil rfl
 ·intro w6;simp only[fP,Cl.isF,cond_true,cond_false]
  repeat still_step
  exact wpStill_nil rfl
 simp only[fP,Cl.qR,cond_true,cond_false];refine uf ((bT _ _).drew) (fun K hK=>?_)
 go_simp
 refine(HN0.out _).mono ?_;rintro e w6 ⟨rfl,b6⟩;have b6':Below w5.heap.size w5 w6:=((bT _ _).drew).trans b6;refine hK _ _ b6' ?_;clear hK K;refine uf b6' (fun K hK=>?_)
 go_simp
 refine(HN1.out _).mono ?_;rintro e w7 ⟨rfl,b7⟩;have hB:Below w5.heap.size w5 w7:=b6'.trans (b7.mono b6'.size);refine hK _ _ hB (MI ?_);clear hK K b6 b6' b7;have I7:=ay (I5.out.below hB);clear hB I5;have wN:Hid (∀b,b=p\/F5 b->b<w7.heap.size):=ay fun b hb=>uW.lt I7.out.u.m hb;go_wp2_with fail;refine KZ ?_;go_wp2_with fail;refine(Xn I7.out.dl HDL.out (dW r0)).mono ?_;rintro e w8 ⟨va,rfl,hT,b8⟩;obtain⟨WL,hWL⟩:∃L,L=(sM (je (D.map wJ)) [dW r0]).1:=⟨_,rfl⟩
 have HWL:=ay hWL;rw[<-hWL] at hT;have HNL:Hid (WL.length<=11):=ay (by
  have h1:=BZ (je (D.map wJ)) [dW r0];rw[<-hWL] at h1;have h2:=qM (D.map wJ);rw[List.length_map] at h2;have h3:([dW r0] :List ByteArray).length=1:=rfl;have:=HDL.out;omega)
 have T8:=ay hT;have I8:=ay (I7.out.below b8);have ahZ:Hid (∀b,va.ownBlock=some b->¬ (b=p\/F5 b)/\w7.heap.size<=b):=ay fun b hb=>⟨fun hf=>by have:=hT.n b hb;have:=wN.out b hf;omega,hT.n b hb⟩
 obtain⟨av,cv,ev,_⟩:=hT.m.slice;obtain⟨N,hN⟩:∃n,n=WL.length:=⟨_,rfl⟩
 have HNE:Hid (N=WL.length):=ay hN;rw[<-hN] at ev;subst ev;clear hT b8 hWL hN I7 wN;obtain⟨s1,s2⟩:=HPS.out r0 RZ.out;have Nf:=ay (show eG F5 w8 (qs r0 0) (sc r0) from I8.out.u.ss.bs r0 _ s1);have HL0:=ay s2;obtain⟨a0,c0,e0⟩:=eG.slice Nf.out;obtain⟨n0,hn0⟩:∃n,n=(sc r0).length:=⟨_,rfl⟩
 rw[<-hn0] at e0;have k0:w8.cell? ⟨gs,r0,none⟩=some (.slice a0 n0 c0):=by have h:=I8.out.u.Kr HSL.out RZ.out;rw[Nat.mul_one] at h;rw[h,e0]
 have k1:w8.cell? ⟨x5,0,none⟩=some (.int .u8 (who 0:Int)):=Qu.out _ _ _ _ _ _ _ I8.out.u 0 aM;have HEQ:Hid (qs r0 0=.slice a0 n0 c0):=ay e0;have Vy:Hid (Calls Tryz.prog 48 #[.pointer (some ⟨p,0,none⟩),.slice (some ⟨gr,0,none⟩) 5 kr,.slice ad nd cd,.string (dW r0),.slice a0 n0 c0] w8 fun e w2=> ∃OUT vo,e=.returned (.tuple #[vo,.bool false])/\ajX sc OUT/\OUT.map (·.nm)=WL/\∃F' qo,Bz (bM wb.heap.size).toEng w8 p F5 w2 vo ⟨X1,OUT,false⟩ F' qo):=ay (by
  refine(zy (E:=(bM wb.heap.size).toEng) (me:=dW r0) I8.out.u.m I8.out.u.ro (fun b hb=>(I8.out.u.rn b hb).1) I8.out.dl (fun b hb=>(I8.out.dn b hb).1) (show eG F5 w8 (.slice a0 n0 c0) (sc r0) from e0▸Nf.out) HDL.out (fun j d hd=>by obtain⟨a,c,_,_,_,_,h5,_⟩:=HRT.out.dep d (List.mem_of_getElem? hd);exact h5) (iw HL0.out aM) HX1.out).mono ?_;rintro e w2 ⟨i,vo,rfl,hi,F',qo,ha⟩;have hr:=RU HRT.out RZ.out hi;exact⟨_,vo,by rw[hr.bad],hr.ok,hr.nm.trans HWL.out.symm,F',qo,hr.x▸ha.m,ha.ou,ha.oo,ha.ch,ha.fo⟩)
 have q0:(who 0:Int).tmod 5=(r0:Int):=HM0.out;have q1:r0<5:=RZ.out;have q2:(r0:Int)<5:=by omega
 clear s1 s2 hn0 e0;go_wp2_with fail;refine Vy.out.mono ?_;rintro e w9 ⟨OUT,vo,rfl,hOK,hNM,F9,qo,hA⟩;have HOH:=ay hOK;have HNM:=ay hNM;have A9:=ay hA;have I9:=ay (I8.out.step hA.m hA.ch hA.fo);have T9:=ay (T8.out.step (fun b hb=>(ahZ.out b hb).1) hA.ch);have HVN:=ay (xJ (w:=w8) ahZ.out (fun b hb=>T8.out.m.lt b hb) hA.fo);have HON:Hid (OUT.length=N):=ay (by rw[HNE.out,←hNM,List.length_map]);obtain⟨ao,co,eo,_,_⟩:=hA.ou.os.m.slice;replace eo:vo=.slice ao OUT.length co:=eo;rw[HON.out] at eo;subst eo;clear hA hOK hNM k0 k1 Vy Nf HEQ I8 T8 ahZ;go_wp2_with fail;refine(Us I9.out.dl HDL.out (fun d hd=>by
  obtain⟨a,c,_,_,h1,h2,_⟩:=HRT.out.dep d hd;rw[h1,h2];exact⟨OE a,OE c⟩) (dW r0) (OE r0)).mono ?_
 rintro e w10 ⟨vb,rfl,hTb,b10⟩;rw[<-HWL.out] at hTb;have HTB:=ay hTb;have I10:=ay (I9.out.below b10);have A10:=ay (A9.out.below b10);have T10:=ay (T9.out.below b10);clear hTb b10 I9 A9 T9;go_wp2_with fail;refine(afF WL vb (.slice av N cv) w10 HTB.out.m.mat T10.out.m.mat (iw HNL.out aM)).mono ?_;rintro e VF ⟨rfl,b11⟩;have I11:=ay (I10.out.below b11);have A11:=ay (A10.out.below b11);have T11:=ay (T10.out.below b11);clear b11 I10 A10 T10 HTB;go_wp2
 go_loopw [92] (fun i wr=> ∃q:Nat,q<=N/\i=.int .i64 (q:Int)/\Below VF.heap.size VF wr) (fun i _=>N - (intOf i).toNat)
 case atStart=>exact⟨0,jm _,rfl,bT _ _⟩
 case round=>
  rename World=>wo
  obtain⟨q,hq,rfl,hbo⟩:=hrel;have HBO:=ay hbo;have AO:=ay (A11.out.below hbo);have IO:=ay (I11.out.below hbo);have TO:=ay (T11.out.below hbo);clear hbo;by_cases VL:q<N
  ·have HQL:=ay VL;obtain⟨hh,hhd⟩:∃d,OUT[q]? =some d:=⟨_,kP (by rw[HON.out];exact VL)⟩
   obtain⟨aw,ha5,rfl⟩:=HOH.out hh (List.mem_of_getElem? hhd);have HA5:=ay ha5;have HWQ:Hid (WL[q]? =some (dW aw)):=ay (by rw[<-HNM.out,List.getElem?_map,hhd];rfl);have adM:Hid (Vm F9 wo (qo q) ⟨dW aw,sc aw⟩):=ay (AO.out.ou.bs q _ hhd);obtain⟨go,ko,eo,hrow,_,_,hcell⟩:=AO.out.ou.os.m.form (by show 0<OUT.length;rw[HON.out];omega);have uY:Hid (∀i,i<2->wo.cell? ⟨go,q * 2+i,none⟩=some (qo q i)):=ay (hcell q (by show q<OUT.length;rw[HON.out];exact VL));replace eo:Value.slice ao N co=.slice (some ⟨go,0,none⟩) OUT.length ko:=eo;rw[HON.out] at eo;cases eo
   obtain⟨gw,kw,ew,aku,_,_,hcw⟩:=TO.out.m.form (by rw[<-HNE.out];omega);rw[<-HNE.out] at ew;cases ew
   have HCW:Hid (wo.cell? ⟨gw,q * 1,none⟩=some (.string (dW aw))):=ay ((hcw q (by rw[<-HNE.out];exact VL) 0 aM).trans (by rw[lY HWQ.out]));have Vp:=ay adM.out.one;obtain⟨ah,ch,eh⟩:=adM.out.z1.slice;obtain⟨ns,hns⟩:∃n,n=(sc aw).length:=⟨_,rfl⟩
   have aib:Hid (qo q 1=.slice ah ns ch):=ay (eh.trans (by rw[hns]));have HNS:Hid (ns=(sc aw).length):=ay hns;clear hhd ha5 hrow aku hcell hcw eh hq hns;go_upto_region 18 with(first | (refine jl rfl rfl rfl Tryz.underlying71 rfl Tryz.sizeHdC uY.out ?_) | (refine gU rfl 71 _ _ rfl wo.heap.size 2 (qo q) _ 71 (heap_alloc_new _ _) rfl Tryz.sizeHdC rfl rfl Vp.out ?_));refine aJ (fun w4=>iM w4 wo.heap.size 2 71 (qo q)/\Below wo.heap.size wo w4) ⟨iM.setRow (heap_alloc_new _ _),aB ((bT _ _).alloc (bH _) _) (bH _) _⟩ ?_;rintro Sk ⟨acS,Uk⟩;have B12:=ay (HBO.out.trans (Uk.mono HBO.out.size));have adF:Hid (wo.heap.size<Sk.heap.size):=ay acS.1.lt;have E0:Hid (Sk.cell? ⟨wo.heap.size,0,none⟩=some (.string (dW aw))):=ay ((acS.2 0 aM).trans (by rw[adM.out.z0]));have E1:Hid (Sk.cell? ⟨wo.heap.size,1,none⟩=some (.slice ah ns ch)):=ay ((acS.2 1 aM).trans (by rw[aib.out]));obtain⟨Si,Av⟩:∃x,x=wo.heap.size:=⟨_,rfl⟩
   rw[<-Av] at adF E0 E1 ⊢;have HGW:Hid (gw<Sk.heap.size):=ay (qZ (World.block_lt_of_cell? _ _ HCW.out) Uk.size);have arx:Hid (Sk.cell? ⟨gw,q * 1,none⟩=some (.string (dW aw))):=ay ((Uk.cell (p:=⟨gw,q * 1,none⟩) (World.block_lt_of_cell? _ _ HCW.out)).trans HCW.out);have I12:=ay (IO.out.below Uk);have Nf:Hid (eG F9 Sk (.slice ah ns ch) (sc aw)):=ay (by have:=(adM.out.below Uk).z1;rwa [aib.out] at this);obtain⟨s1,_⟩:=HPS.out aw HA5.out;obtain⟨ak,ck,ek⟩:=eG.slice (show eG F9 Sk (qs aw 0) (sc aw) from I12.out.u.ss.bs aw _ s1);rw[<-HNS.out] at ek;have HSC:Hid (Sk.cell? ⟨gs,aw * 1,none⟩=some (.slice ak ns ck)):=ay ((I12.out.u.Kr HSL.out HA5.out).trans (by rw[ek]));have HSK:Hid (eG F9 Sk (.slice ak ns ck) (sc aw)):=ay (ek▸show eG F9 Sk (qs aw 0) (sc aw) from I12.out.u.ss.bs aw _ s1);have HGS:Hid (gs<Sk.heap.size):=ay (I12.out.u.ss.os.m.lt gs rfl);have HSM:Hid (∀w',Below Sk.heap.size Sk w'->Calls Tryz.prog 19 #[.slice ah ns ch,.slice ak ns ck] w' fun e wz=>e=.returned (.bool true)/\Below w'.heap.size w' wz):=ay fun w' hb'=>by
    have h1:=(Nf.out.below hb').rd;have h2:=(HSK.out.below hb').rd;rw[HNS.out] at h1 h2 ⊢;exact Ci _ _ _ _ _ w' h1 h2 fun _ _=>rfl
   have aqM:Hid (pX (dW aw) (0:Int).toNat=97+(aw:Int)):=ay (abv HA5.out);have aqI:Hid ((0:Int)<((dW aw).size:Int)):=ay (by show (0:Int)<((1:Nat):Int);decide);have aqJ:Hid (IntKind.u8.wrap (97+(aw:Int) - 97)=(aw:Int)):=ay (afr HA5.out);have q9:(q:Int)<1000000:=by have:=HNL.out;have:=HNE.out;omega
   clear acS Uk Av ek s1 uY HCW Vp aib Nf HSK
   refine bC (n:=171) aQ aQ aQ rfl
    (fun ii vv _=>(match ii with | 0 | 11=>vv=.pointer (some ⟨Si,0,none⟩) | 1 | 5 | 12=>vv=.string (dW aw) | 2=>vv=.slice (some ⟨gw,0,none⟩) N cv | 3=>vv=.int .i64 ((q:Int)) | 4=>vv=.pointer (some ⟨gw,q * 1,none⟩) | 6 | 7 | 18 | 19=>vv=.bool false | 8=>vv=.pointer (some ⟨Si,1,none⟩) | 9=>vv=.slice ah ns ch | 10=>vv=.slice (some ⟨gs,0,none⟩) 5 ks | 13=>vv=.int .u8 ((97+(aw:Int))) | 14=>vv=.int .u8 ((aw:Int)) | 15=>vv=.pointer (some ⟨gs,aw * 1,none⟩) | 16=>vv=.slice ak ns ck | 17=>vv=.bool true | _=>True))
    (fun w w'=>Below w.heap.size w w') (fun _ _ h=>h) (fun _ _ _ _ h _=>h) ?_ ?_
   ·refine dG ?_;refine⟨?_,?_,?_,?_,?_,?_,?_,?_,?_,?_,?_,?_,?_,?_,?_,?_,?_,?_,?_,?_,trivial⟩
    ·intro a w2 hB hF hd;refine aN <| aW (bB (m:=0) (k:=0) rfl (hF.same 19 rfl) aQ) ?_;exact rfl
    ·intro a w2 hB hF hd;exact aN <| aW (eT rfl (hd 0 _ rfl (aj rfl)) yG ((hB.cell (p:=⟨Si,0,none⟩) adF.out).trans E0.out)) rfl
    ·intro a w2 hB hF hd;exact aN <| aG _ (.inl rfl) aR (hF.same 15 rfl)
    ·intro a w2 hB hF hd;exact aN <| aG _ (.inl rfl) aR (hF.same 18 rfl)
    ·intro a w2 hB hF hd;exact aN <| aW (cO (i:=q) (sz:=1) rfl (hd 2 _ rfl (aj rfl)) (hd 3 _ rfl (aj rfl)) Tryz.underlying81 aQ HQL.out) rfl
    ·intro a w2 hB hF hd;exact aN <| aW (eT rfl (hd 4 _ rfl (aj rfl)) yG ((hB.cell (p:=⟨gw,q * 1,none⟩) HGW.out).trans arx.out)) rfl
    ·intro a w2 hB hF hd;exact aN <| aW (sP rfl (hd 1 _ rfl (aj rfl)) (hd 5 _ rfl (aj rfl)) yG) (congrArg Value.bool (show (!decide (dW aw=dW aw))=false by simp))
    ·intro a w2 hB hF hd;exact aN <| aG _ (.inl rfl) aR (hd 6 _ rfl (aj rfl))
    ·intro a w2 hB hF hd;refine aT (aX rfl rfl (hd 7 _ rfl (aj rfl)) rfl) ?_;refine aW (bB (m:=0) (k:=1) rfl (hF.same 19 rfl) aQ) ?_;exact rfl
    ·intro a w2 hB hF hd;refine aT (aX rfl rfl (hd 7 _ rfl (aj rfl)) rfl) ?_;exact aW (eB rfl (hd 8 _ rfl (aj rfl)) mo ((hB.cell (p:=⟨Si,1,none⟩) adF.out).trans E1.out)) rfl
    ·intro a w2 hB hF hd;refine aT (aX rfl rfl (hd 7 _ rfl (aj rfl)) rfl) ?_;exact aG _ (.inl rfl) aR (hF.same 9 rfl)
    ·intro a w2 hB hF hd;refine aT (aX rfl rfl (hd 7 _ rfl (aj rfl)) rfl) ?_;refine aW (bB (m:=0) (k:=0) rfl (hF.same 19 rfl) aQ) ?_;exact rfl
    ·intro a w2 hB hF hd;refine aT (aX rfl rfl (hd 7 _ rfl (aj rfl)) rfl) ?_;exact aW (eT rfl (hd 11 _ rfl (aj rfl)) yG ((hB.cell (p:=⟨Si,0,none⟩) adF.out).trans E0.out)) rfl
    ·intro a w2 hB hF hd;refine aT (aX rfl rfl (hd 7 _ rfl (aj rfl)) rfl) ?_;exact aW (Et rfl (hd 12 _ rfl (aj rfl)) rfl yG aM aqI.out) (congrArg (Value.int .u8) aqM.out)
    ·intro a w2 hB hF hd;refine aT (aX rfl rfl (hd 7 _ rfl (aj rfl)) rfl) ?_;exact aW (Go.bI.uG rfl (hd 13 _ rfl (aj rfl)) rfl) (congrArg (Value.int .u8) (aqJ.out))
    ·intro a w2 hB hF hd;refine aT (aX rfl rfl (hd 7 _ rfl (aj rfl)) rfl) ?_;exact aW (cO (i:=aw) (sz:=1) rfl (hd 10 _ rfl (aj rfl)) (hd 14 _ rfl (aj rfl)) Tryz.underlying55 Tryz.sizeBs HA5.out) rfl
    ·intro a w2 hB hF hd;refine aT (aX rfl rfl (hd 7 _ rfl (aj rfl)) rfl) ?_;exact aW (eB rfl (hd 15 _ rfl (aj rfl)) mo ((hB.cell (p:=⟨gs,aw * 1,none⟩) HGS.out).trans HSC.out)) rfl
    ·intro a w2 hB hF hd;refine aT (aX rfl rfl (hd 7 _ rfl (aj rfl)) rfl) ?_;refine aI _ _ _ rfl Tryz.call19 _ (args2 (hd 9 _ rfl (aj rfl)) (hd 16 _ rfl (aj rfl))) aR ((HSM.out w2 hB).mono ?_);rintro e w3 ⟨rfl,hb⟩;exact⟨_,rfl,rfl,hb⟩
    ·intro a w2 hB hF hd;refine aT (aX rfl rfl (hd 7 _ rfl (aj rfl)) rfl) ?_;exact aW (pJ rfl (hd 17 _ rfl (aj rfl))) rfl
    ·intro a w2 hB hF hd;exact aN <| aW (jN rfl (hd 7 _ rfl (aj rfl))) ((hd 18 _ rfl (aj rfl)))
   ·intro a w13 hB hF hS;have ha:=aO rfl rfl hF [_,_,_,_,_,_,_,_,_,_,_,_,_,_,_,_,_,_,_,_] rfl ⟨hS 0 _ rfl,hS 1 _ rfl,hS 2 _ rfl,hS 3 _ rfl,hS 4 _ rfl,hS 5 _ rfl,hS 6 _ rfl,hS 7 _ rfl,hS 8 _ rfl,hS 9 _ rfl,hS 10 _ rfl,hS 11 _ rfl,hS 12 _ rfl,hS 13 _ rfl,hS 14 _ rfl,hS 15 _ rfl,hS 16 _ rfl,hS 17 _ rfl,hS 18 _ rfl,hS 19 _ rfl,trivial⟩;simp only[puts,Act.put,fB,fD,fF] at ha;subst ha;clear hS hF;have B13:=ay (B12.out.trans (hB.mono B12.out.size));clear hB;go_wp2;go_roundw
    case rel=>exact⟨q+1,HQL.out,by go_num,B13.out⟩
    case measure=>have:=HQL.out;simp[intOf] <;> omega
  ·have hqN:q=N:=by omega
   have q9:¬ (q:Int)<(N:Int):=by omega
   clear hqN VL hq;obtain⟨s1,s2⟩:=HPS.out r0 RZ.out;have Nf:=ay (show eG F9 wo (qs r0 0) (sc r0) from IO.out.u.ss.bs r0 _ s1);have HL0:=ay s2;obtain⟨a0,c0,e0⟩:=eG.slice Nf.out;obtain⟨n0,hn0⟩:∃n,n=(sc r0).length:=⟨_,rfl⟩
   rw[<-hn0] at e0;have k0:wo.cell? ⟨gs,r0,none⟩=some (.slice a0 n0 c0):=by have h:=IO.out.u.Kr HSL.out RZ.out;rw[Nat.mul_one] at h;rw[h,e0]
   have k1:wo.cell? ⟨x5,0,none⟩=some (.int .u8 (who 0:Int)):=Qu.out _ _ _ _ _ _ _ IO.out.u 0 aM;obtain⟨b,hb⟩:∃b:Bool,b=true ↔ dW r1 ∈ WL:=by
    by_cases h:dW r1 ∈ WL
    ·exact⟨true,⟨fun _=>h,fun _=>rfl⟩⟩
    ·exact⟨false,⟨fun e=>absurd e aM,fun h'=>absurd h' h⟩⟩
   have yJ:=ay hb;obtain⟨xb,ex,HXB,HSE⟩:∃xb ex,Hid (xb=(if b then sc r1 else [])/\ex=(if b then 0 else 40))/\Hid (Calls Tryz.prog 55 #[.pointer (some ⟨p,0,none⟩),.slice (some ⟨gr,0,none⟩) 5 kr,.slice ad nd cd,.string (dW r0),.slice a0 n0 c0,.string (dW r1)] wo fun e w'=> ∃u,e=.returned (.tuple #[u,.int .i64 ex])/\(bM wb.heap.size).Res wo p F9 u (xb,ex,X1) w'):=by
    have h:=IJ (j:=r1) (m:=r0) b IO.out.u.m HX1.out IO.out.u.ro (fun b hb=>(IO.out.u.rn b hb).1) IO.out.dl (fun b hb=>(IO.out.dn b hb).1) (show eG F9 wo (.slice a0 n0 c0) (sc r0) from e0▸Nf.out) HL0.out HDL.out HRT.out RZ.out HR1.out (by rw[<-HWL.out];exact hb)
    cases b with
    | true=>exact⟨_,_,ay ⟨rfl,rfl⟩,ay h⟩
    | false=>exact⟨_,_,ay ⟨rfl,rfl⟩,ay h⟩
   have q0:(who 0:Int).tmod 5=(r0:Int):=HM0.out;have q1:r0<5:=RZ.out;have q2:(r0:Int)<5:=by omega
   clear s1 s2 hn0 hb;go_wp2_with fail;refine HSE.out.mono ?_;rintro e w14 ⟨u,rfl,F14,akD,agm,agQ,akP⟩;have I14:=ay (IO.out.step akD agQ akP);have Y14:=ay agm;have T14:=ay (TO.out.step (fun b hb=>(HVN.out b hb).1) agQ);have ahY:=ay (aqF.out _ _ _ _ _ _ _ I14.out.u);obtain⟨au,cu,eu⟩:=agm.slice;obtain⟨nu,hnu⟩:∃n,n=xb.length:=⟨_,rfl⟩
   dsimp only at eu
   rw[<-hnu] at eu;subst eu;have HNU:=ay hnu;have k2:w14.cell? ⟨gs,r0,none⟩=some (.slice a0 n0 c0):=by have h:=I14.out.u.Kr HSL.out RZ.out;rw[Nat.mul_one] at h;rw[h,e0]
   have k3:w14.cell? ⟨x5,0,none⟩=some (.int .u8 (who 0:Int)):=Qu.out _ _ _ _ _ _ _ I14.out.u 0 aM;clear akD agm agQ akP hnu k0 k1 e0 HSE Nf HL0 IO AO TO;go_wp2_with fail;refine(Mg (of:=XQ) I14.out.u.ro Jp.out ⟨_,_,_,rfl⟩ ⟨_,_,_,rfl⟩ (dW r0)).mono ?_;rintro e w15 ⟨rfl,b15⟩;have I15:=ay (I14.out.below b15);have Y15:=ay (Y14.out.below b15);have T15:=ay (T14.out.below b15);have ahX:=ay (ahY.out.trans (b15.mono ahY.out.size));clear b15 k2 k3 I14 Y14 T14 ahY q0 q1 q2;go_wp2_with fail;refine(Bd b WL (.slice av N cv) (dW r1) w15 T15.out.m.mat (iw HNL.out aM) yJ.out).mono ?_;rintro e w16 ⟨rfl,rfl⟩
   cases b with
   | true=>
    obtain⟨rfl,rfl⟩:xb=sc r1/\ex=0:=HXB.out;obtain⟨s1,_⟩:=HPS.out r1 HR1.out;have hsa:=(show eG F14 w16 (qs r1 0) (sc r1) from I15.out.u.ss.bs r1 _ s1)
    obtain⟨ak,ck,ek⟩:=eG.slice hsa;rw[<-HNU.out] at ek;have k2:w16.cell? ⟨gs,r1,none⟩=some (.slice ak nu ck):=by have h:=I15.out.u.Kr HSL.out HR1.out;rw[Nat.mul_one] at h;rw[h,ek]
    have k3:w16.cell? ⟨x5,1,none⟩=some (.int .u8 (who 1:Int)):=Qu.out _ _ _ _ _ _ _ I15.out.u 1 aM;have HSM:Hid (Calls Tryz.prog 19 #[.slice au nu cu,.slice ak nu ck] w16 fun e wz=>e=.returned (.bool true)/\Below w16.heap.size w16 wz):=ay (by
     have h1:=Y15.out.rd;have h2:=hsa.rd;rw[ek] at h2;rw[HNU.out] at h1 h2 ⊢;exact Ci _ _ _ _ _ _ h1 h2 fun _ _=>rfl)
    have q0:(who 1:Int).tmod 5=(r1:Int):=HM1.out;have q1:r1<5:=HR1.out;have q2:(r1:Int)<5:=by omega
    clear s1 hsa ek HXB yJ;go_wp2_with fail;refine HSM.out.mono ?_;rintro e w17 ⟨rfl,b17⟩;have B17:=ay (ahX.out.trans (b17.mono ahX.out.size));clear b17 k2 k3;go_wp2;go_ret;exact⟨rfl,B17.out⟩
   | false=>
    obtain⟨rfl,rfl⟩:xb= [] /\ex=40:=HXB.out;obtain rfl:nu=0:=HNU.out;clear HXB yJ;go_wp2;go_ret;exact⟨rfl,ahX.out⟩
theorem AB (w:World) (y:Bool) (sd:Nat->Int) (hs:∀i,i<32->(Lit.int .u8 (sd i)).wf=true) (v1:Value) (m:Nat) (f g:Nat->Nat) (h1:Pr2 w v1 m f g) (_b1:∀j,f j<256/\g j<256) (who:Nat->Int) (hw:∀i,i<2->(Lit.int .u8 (who i)).wf=true):
  Calls Tryz.prog 7 #[Vj y sd,v1,.agg (arr .u8 2 who)] w fun e w'=>e=.returned (.bool true)/\Below w.heap.size w w':=by
 have hb:∀i,i<2->0<=who i:=fun i hi=>by have:=bounds_u8 (hw i hi);omega
 rw[show arr .u8 2 who=arr .u8 2 (fun i=>((who i).toNat:Int)) from iQ fun i hi=>by rw[Int.toNat_of_nonneg (hb i hi)]];exact AA w y sd (fun i hi=>by have:=bounds_u8 (hs i hi);omega) v1 m f g h1 _
end Go.Proofs.YtpcjekgfnfjbpaaGreat
