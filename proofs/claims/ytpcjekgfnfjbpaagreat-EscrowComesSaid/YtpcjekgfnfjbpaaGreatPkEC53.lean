/- Part 53 of EscrowComes; conditions: in each theorem. -/
import Derived.Test.YtpcjekgfnfjbpaaGreatPkEC11
import Derived.Test.YtpcjekgfnfjbpaaGreatPkEC17
import Derived.Deep.Cut
import Derived.Great.Walk
set_option linter.unusedVariables false
set_option linter.unusedSimpArgs false
set_option maxRecDepth 100000
set_option maxHeartbeats 3200000
namespace Go.Proofs.YtpcjekgfnfjbpaaGreat
open Go.RowKit Go.bI Go.ChangeShapes Go.Maps
attribute [local go_sem ↓] Go.wp_at_zero Go.wp_at_succ
theorem Tryz.info142:(Tryz.prog.info? 142).map (fun i=>(i.zero,i.size,i.bytes))=some (some (.slice none 0 0),1,24):=by kernel_rfl
theorem Wd (w:World):(zeroValue 3).run Tryz.prog w=.ok (.int .i64 0) w:=by
 obtain⟨x,h1,h2⟩:=Option.map_eq_some_iff.1 Tryz.info3;simp only[Prod.mk.injEq] at h2;simp[zeroValue,typeInfo,h1,h2.1]
abbrev kvI:Int->Value:=Value.int .i64
theorem OW (L:List Int) (v:Value) (x:Int) (w:World) (h:Ns w v L.length 1 (lv kvI L)):Calls Tryz.prog 255 #[v,kvI x] w fun e w'=>e=.returned (.int .i64 (fidx L x))/\w'=w:=by
 obtain⟨a,cap,rfl,hcap,hcap2,hcell⟩:=h.one;have HC:=ay hcell;clear h hcell;obtain⟨E,hE⟩:∃E,E=fidx L x:=⟨_,rfl⟩
 rw[<-hE];have HE:=ay hE;clear hE
 go_enter Tryz.func255,Tryz.ntmps255
 go_wp2
 go_loop [8] (fun i=> ∃k:Nat,k<=L.length/\i=.int .i64 k/\∀j,j<k->L[j]?≠some x) (fun i=>L.length - (intOf i).toNat)
 case atStart=>exact⟨0,jm _,rfl,fun j hj=>absurd hj (Nat.not_lt_zero _)⟩
 case round=>
  obtain⟨k,hk,rfl,hno⟩:=hrel;have Jp:=ay hno;clear hno;by_cases hlt:k<L.length
  ·obtain⟨b,o,rfl,_,z0⟩:=HC.out k hlt;obtain⟨y,hy⟩:∃y,L[k]? =some y:=⟨_,kP hlt⟩
   rw[lY hy] at z0;have HY:=ay hy;clear hy;by_cases hxy:x=y
   ·have HX:=ay hxy;have hbq:(x==y)=true:=(by simpa using hxy)
    obtain rfl:=hxy;clear hbq;have HEK:Hid (E=(k:Int)):=HE.out.trans (ade HY.out Jp.out);go_wp2;go_ret;rw[HEK.out];exact⟨rfl,rfl⟩
   ·have hbq:(x==y)=false:=(by simpa using hxy)
    have hxy':¬ y=x:=fun e=>hxy e.symm;have Vq:Hid (∀j,j<k+1->L[j]?≠some x):=fun j hj=>by
     by_cases e:j=k
     ·subst e;rw[HY.out];intro e2;exact hxy (gJ e2).symm
     ·exact Jp.out j aH
    go_wp2
    go_round
    case rel=>exact⟨k+1,by omega,by go_num,Vq.out⟩
    case measure=>simp[intOf];omega
  ·obtain rfl:k=L.length:=by omega
   have HEK:Hid (E= -1):=by
    have hm:x ∉ L:=fun hm=>by
     obtain⟨j,hj,e⟩:=List.mem_iff_getElem.1 hm;exact Jp.out j hj (by rw[kP hj,e])
    rw[HE.out];unfold fidx;rw[if_neg hm];exact rfl
   go_wp2;go_ret;rw[HEK.out];exact⟨rfl,rfl⟩
section
variable {B : Nat} {w w' : World} {p mb : Nat} {vn vo : Value} {ov : Nat -> Value} {nd : List Int} {os : List (List Nat)} {ed : Nat}
end
theorem Tryz.infoString:(Tryz.prog.info? 9).map (fun i=>(i.zero,i.size,i.bytes))=some (some (.string .empty),1,16):=by kernel_rfl
abbrev sj:ByteArray->Value:=Value.string
def Lc:ByteArray->Prop:=fun x=>x.size<=9223372036854775807
theorem oM:Key Tryz.prog 9 161 3 sj Lc:=
 ⟨Go.Maps.string_keyed yG,Tryz.underlying161,Tryz.underlying3,Wd,fun x hx=>⟨_,WideMaps.keyOf_string_mk yG (by unfold maxLen;exact hx)⟩,fun x y h=>by simpa [sj] using h,fun _=>rfl⟩
abbrev GS (B:Nat) (w:World) (p mb:Nat) (vn vo:Value) (ov:Nat->Value) (nd:List ByteArray) (os:List (List Nat)) (ed:Nat):Prop:=Qv Tryz.prog 206 9 3 142 sj B w p mb vn vo ov nd os ed
section
variable {B : Nat} {w w' : World} {p mb : Nat} {vn vo : Value} {ov : Nat -> Value} {nd : List ByteArray} {os : List (List Nat)} {ed : Nat}
theorem Rn (h:GS B w p mb vn vo ov nd os ed):Calls Tryz.prog 167 #[.pointer (some ⟨p,0,none⟩)] w fun e w'=>e=.returned (.bool true)/\w'=w:=by
 have c0:=h.row.c0;have hq:=fun w=>run_neq_map_nil (P:=Tryz.prog) w 161 9 3 (some mb) Tryz.underlying161;clear h
 go_enter Tryz.func167,Tryz.ntmps167
 go_wp2;go_ret;exact⟨rfl,rfl⟩
end
theorem adb {K:Type} [DecidableEq K] (L:List K) (x:K):decide (0<=fidx L x)=decide (x ∈ L):=by
 unfold fidx;by_cases h:x ∈ L
 ·rw[if_pos h,decide_eq_true h,decide_eq_true aH]
 ·rw[if_neg h,decide_eq_false h,decide_eq_false aH]
theorem IW (L:List Int) (v:Value) (x:Int) (w:World) (h:Ns w v L.length 1 (lv kvI L)):Calls Tryz.prog 224 #[v,.int .i64 x] w fun e w'=>e=.returned (.bool (decide (x ∈ L)))/\w'=w:=by
 have HI:=ay (OW L v x w h);obtain⟨a,cap,rfl,_⟩:=h.one;have HF:=ay (adb L x);obtain⟨E,hE⟩:∃E,E=fidx L x:=⟨_,rfl⟩
 rw[<-hE] at HI HF;clear h hE
 go_enter Tryz.func224,Tryz.ntmps224
 go_wp2_with fail;refine HI.out.mono ?_;rintro e w' ⟨rfl,rfl⟩;go_wp2;go_ret;rw[<-HF.out];exact⟨rfl,rfl⟩
def toI (l:List Nat):List Int:=l.map fun n:Nat=>(n:Int)
theorem NH (l:List Nat):(toI l).length=l.length:=List.length_map ..
theorem natList (l:List Nat):lv kF l=lv kvI (toI l):=by
 funext j i
 unfold lv;unfold toI;rw[List.getElem?_map];cases l[j]?<;> rfl
theorem Lp {l:List Nat} {n:Nat}:(n:Int) ∈ toI l ↔ n ∈ l:=by
 unfold toI;rw[List.mem_map]
 constructor
 ·rintro⟨m,hm,e⟩;obtain rfl:m=n:=by omega
  exact hm
 ·intro h;exact⟨n,h,rfl⟩
section
variable {B : Nat} {w w' : World} {p mb : Nat} {vn vo : Value} {ov : Nat -> Value} {nd : List Int} {os : List (List Nat)} {ed : Nat}
end
theorem XU (w:World):Calls Tryz.prog 111 #[] w fun e w'=> ∃p mb,e=.returned (.pointer (some ⟨p,0,none⟩))/\GS w.heap.size w' p mb (.slice none 0 0) (.slice none 0 0) (fun _=>.slice none 0 0) [] [] 0/\Below w.heap.size w w':=by
 have HM:=ay (uw.made Tryz.prog 9 3 w (fun i=>lv sj [] i 0) kF);have hmk:∀w,(Instr.makeMap 161 none).run Tryz.prog w=.ok (.map (some w.heap.size)) (w.alloc (.map #[] 0)):=fun w=>rfl
 go_enter Tryz.func111,Tryz.ntmps111
 go_wp2;go_ret;have b1:Below w.heap.size w (w.alloc (.map #[] 0)):=(bT _ _).alloc (bH _) _;refine⟨_,w.heap.size,rfl,?_,by first | exact b1.alloc b1.size _ | exact(b1.alloc b1.size _).drew | exact((b1.drew).alloc b1.size _).drew | exact(b1.drew).alloc b1.size _⟩;have hb:=heap_alloc_new (w.alloc (.map #[] 0)) (.cells #[.map (some w.heap.size),.slice none 0 0,.slice none 0 0,.int .i64 0] 206);have hc:∀i,((w.alloc (.map #[] 0)).alloc (.cells #[.map (some w.heap.size),.slice none 0 0,.slice none 0 0,.int .i64 0] 206)).cell? ⟨(w.alloc (.map #[] 0)).heap.size,i,none⟩=(#[.map (some w.heap.size),.slice none 0 0,.slice none 0 0,.int .i64 0] :Array Value)[i]?:=fun i=>cell_of_row _ _ i _ _ (0,0) hb;have hs:w.heap.size<=(w.alloc (.map #[] 0)).heap.size:=b1.size;rw[World.size_alloc] at hb hc hs;refine⟨⟨⟨_,hb,rfl⟩,hc 0,hc 1,hc 2,hc 3⟩,(HM.out.alloc _:vU Tryz.prog 9 3 sj _ w.heap.size []),iA.nil _ _ _ _,iA.nil _ _ _ _,fun j l hj=>by simp at hj,fun i j hi=>absurd hi (Nat.not_lt_zero _),fun j hj=>absurd hj (Nat.not_lt_zero _),fun b hb=>?_,rfl,by decide,by decide,fun l hl=>by simp at hl,List.nodup_nil⟩;rcases hb with rfl | rfl | hb | hb | ⟨j,hj,_⟩
 ·exact hs
 ·exact bH _
 ·cases hb
 ·cases hb
 ·exact absurd hj (Nat.not_lt_zero _)
section
variable {B : Nat} {w w' : World} {p mb : Nat} {vn vo : Value} {ov : Nat -> Value} {nd : List ByteArray} {os : List (List Nat)} {ed : Nat}
theorem Po (h:GS B w p mb vn vo ov nd os ed) (x y:ByteArray) (hx:Lc x) (hy:Lc y):Calls Tryz.prog 169 #[.pointer (some ⟨p,0,none⟩),sj x,sj y] w fun e w'=>e=.returned (.int .i64 (newG nd x y))/\w'=w:=by
 have c0:=h.row.c0;have HM:=ay h.map;clear h;obtain⟨E,hE⟩:∃E,E=newG nd x y:=⟨_,rfl⟩
 rw[<-hE];have HE:=ay hE;clear hE;by_cases h1:x ∈ nd
 ·have l1:=oM.kN HM.out h1;by_cases h2:y ∈ nd
  ·have l2:=oM.kN HM.out h2;have HE2:Hid (E=0):=by rw[HE.out,acv h1 h2];exact rfl
   clear hx hy
   go_enter Tryz.func169,Tryz.ntmps169
   go_wp2;go_ret;rw[HE2.out];exact⟨rfl,rfl⟩
  ·have l2:=oM.nJ HM.out hy h2;have hxy:¬ y=x:=fun e=>h2 (e▸h1);have hbq:(y.toList==x.toList)=false:=(yA hxy)
   have HE2:Hid (E=1):=by rw[HE.out,acu h1 h2];exact rfl
   clear hx hy
   go_enter Tryz.func169,Tryz.ntmps169
   go_wp2;go_ret;rw[HE2.out];exact⟨rfl,rfl⟩
 ·have l1:=oM.nJ HM.out hx h1;by_cases h2:y ∈ nd
  ·have l2:=oM.kN HM.out h2;have HE2:Hid (E=1):=by rw[HE.out,acs h1 h2];exact rfl
   clear hx hy
   go_enter Tryz.func169,Tryz.ntmps169
   go_wp2;go_ret;rw[HE2.out];exact⟨rfl,rfl⟩
  ·have l2:=oM.nJ HM.out hy h2;by_cases hxy:y=x
   ·have HE2:Hid (E=1):=by rw[HE.out,acr h1 h2 hxy];exact rfl
    have hbq:(y.toList==x.toList)=true:=(yx hxy)
    clear hx hy
    go_enter Tryz.func169,Tryz.ntmps169
    go_wp2;go_ret;rw[HE2.out];exact⟨rfl,rfl⟩
   ·have hbq:(y.toList==x.toList)=false:=(yA hxy)
    have HE2:Hid (E=2):=by rw[HE.out,acp h1 h2 hxy];exact rfl
    clear hx hy
    go_enter Tryz.func169,Tryz.ntmps169
    go_wp2;go_ret;rw[HE2.out];exact⟨rfl,rfl⟩
theorem LU (h:GS B w p mb vn vo ov nd os ed) (x y:ByteArray) (hx:Lc x) (hy:Lc y):Calls Tryz.prog 168 #[.pointer (some ⟨p,0,none⟩),sj x,sj y] w fun e w'=> ∃b,e=.returned (.bool b)/\(b=true ↔ ahf nd os x y)/\w'=w:=by
 have c0:=h.row.c0;have HM:=ay h.map;have HG:=ay h;clear h;by_cases h1:x ∈ nd
 ·have l1:=oM.kN HM.out h1;by_cases h2:y ∈ nd
  ·have l2:=oM.kN HM.out h2;have hi:kQ nd x<os.length:=by rw[<-HG.out.same];exact qh h1
   obtain⟨l,hl⟩:∃l,os[kQ nd x]? =some l:=⟨_,kP hi⟩
   have HL:=ay hl;have hlist:=HG.out.lists _ l hl;have HC:=ay (IW (toI l) (ov (kQ nd x)) (kQ nd y:Nat) w (by rw[<-natList,NH];exact hlist.mat));obtain⟨go_,co,rfl,hro,hco,awt,hcells⟩:=HG.out.out.form aH;have c2:=HG.out.row.c2;have z0:=hcells _ hi 0 aM;rw[show kQ nd x * 1+0=kQ nd x by omega] at z0;obtain⟨al,cl,el,_⟩:=hlist.slice;rw[el] at z0 HC;have HR:Hid (((kQ nd y:Nat):Int) ∈ toI l ↔ ahf nd os x y):=by
    rw[Lp]
    constructor
    ·intro h;exact⟨h1,h2,l,HL.out,h⟩
    ·rintro⟨_,_,l',h3,h4⟩;rw[HL.out] at h3;cases h3
     exact h4
   have hi9:((kQ nd x:Nat):Int)<os.length:=by omega
   obtain⟨X,hX⟩:∃X,X=kQ nd x:=⟨_,rfl⟩
   obtain⟨Y,hY⟩:∃Y,Y=kQ nd y:=⟨_,rfl⟩
   rw[<-hX] at z0 l1 hi9 hi;rw[<-hY] at l2 HC HR;clear hx hy hlist el hl hcells hro hX hY
   go_enter Tryz.func168,Tryz.ntmps168
   go_wp2_with fail;refine HC.out.mono ?_;rintro e w' ⟨rfl,rfl⟩;go_wp2;go_ret;exact⟨_,rfl,by rw[decide_eq_true_iff];exact HR.out,rfl⟩
  ·have l2:=oM.nJ HM.out hy h2;have HN:=ay h2;clear hx hy h2
   go_enter Tryz.func168,Tryz.ntmps168
   go_wp2;go_ret;exact⟨false,rfl,⟨(fun e=>by cases e),fun h=>absurd h.2.1 HN.out⟩,rfl⟩
 ·have l1:=oM.nJ HM.out hx h1;have HN:=ay h1;have l2:∃v b,(Instr.lookup 161 (.map (some mb)) (sj y) true).run Tryz.prog w=.ok (.tuple #[.int .i64 v,.bool b]) w:=by
   by_cases h2:y ∈ nd
   ·exact⟨_,_,oM.kN HM.out h2⟩
   ·exact⟨_,_,oM.nJ HM.out hy h2⟩
  obtain⟨v2,b2,l2⟩:=l2;clear hx hy h1
  go_enter Tryz.func168,Tryz.ntmps168
  go_wp2;go_ret;exact⟨false,rfl,⟨(fun e=>by cases e),fun h=>absurd h.1 HN.out⟩,rfl⟩
end
section
variable {B : Nat} {w w' : World} {p mb : Nat} {vn vo : Value} {ov : Nat -> Value} {nd : List ByteArray} {os : List (List Nat)} {ed : Nat}
theorem FJ (h:GS B w p mb vn vo ov nd os ed) (hB:B<=w.heap.size) (x:ByteArray) (hx:Lc x) (hf:nd.length<1000000):Calls Tryz.prog 170 #[.pointer (some ⟨p,0,none⟩),sj x] w fun e w'=>e=.returned (kF (kQ (addN nd x) x))/\
  ∃vn' VG ov' os',GS B w' p mb vn' VG ov' (addN nd x) os' ed/\fV (GF p mb vn vo os ov) w w'/\(∀b,GF p mb vn' VG os' ov' b->GF p mb vn vo os ov b\/w.heap.size<=b)/\((x ∈ nd/\os'=os)\/(x ∉ nd/\os'=os++ [[]])):=by
 have c0:=h.row.c0;have HG:=ay h;have yJ:=ay hB;have HX:=ay hx;have HF:=ay hf;clear h hB hx hf;by_cases h1:x ∈ nd
 ·have l1:=oM.kN HG.out.map h1;have H1:=ay h1;have hid:Hid (addN nd x=nd):=Gh h1;rw[hid.out];obtain⟨X,hX⟩:∃X,X=kQ nd x:=⟨_,rfl⟩
  rw[<-hX] at l1 ⊢;clear h1 hX
  go_enter Tryz.func170,Tryz.ntmps170
  go_wp2;go_ret;exact⟨rfl,_,_,_,_,HG.out,.refl _ _,fun b hb=>.inl hb,.inl ⟨H1.out,rfl⟩⟩
 ·have l1:=oM.nJ HG.out.map HX.out h1;have H1:=ay h1;have hid:Hid (addN nd x=nd++ [x]):=MV h1;have hpl:Hid (kQ (nd++ [x]) x=nd.length):=ay (za (by rw[<-hid.out];exact oQ HG.out.nodup x) aR);obtain⟨w1,hrun,hm1,hg1⟩:=oM.put HG.out.map HX.out h1 (by have:=HF.out;omega);have HM1:=ay hm1;rw[hid.out,hpl.out];have k1:=HG.out.row.c1;obtain⟨an,cn,en,hcn,awu⟩:=HG.out.nodes.slice;have HEN:=ay en;rw[en] at k1;have C1:Hid (fV (fun b=>b=mb) w w1):=fV.jP hg1 fun b hb=>by cases hb;rfl
  have hpm:¬ p=mb:=fun e=>HG.out.map.vM (e▸HG.out.row.row);have R1:=ay (HG.out.row.gL C1.out hpm);have N1:=ay (HG.out.nodes.gL C1.out fun b hb e=>HG.out.nodes.kW HG.out.map (e▸hb));have O1:=ay (HG.out.out.gL C1.out fun b hb e=>HG.out.out.kW HG.out.map (e▸hb));clear h1 hm1 hg1 en
  go_enter Tryz.func170,Tryz.ntmps170
  go_upto_region 5 with(fail);have c1:=R1.out.c1;rw[HEN.out] at c1;have hN1:=N1.out;rw[HEN.out] at hN1;have HN1:=ay hN1;clear hN1 c0 k1 l1 hrun;go_upto_region 6 with(refine gM rfl _ _ rfl rfl rfl HN1.out Tryz.underlying81 Tryz.infoString rfl rfl rfl (by have:=HF.out;unfold maxLen;omega) (by have:=HF.out;omega) ?_;intro v2 w2 cK dL Yz;have C2:=ay (fV.tH dL);have R2:=ay (R1.out.gL C2.out (fun e=>HN1.out.ig R1.out.row aM e));have e1:=R2.out.c1;rw[HEN.out] at e1;have f1:=R2.out.row.free 1;have N2:=ay cK;have PL2:=ay Yz;obtain⟨a2,q2,rfl,_⟩:=cK.slice;clear cK dL Yz);have M2:=ay (HM1.out.gL C2.out fun e=>HN1.out.kW HM1.out e);have O2:=ay (O1.out.gL C2.out fun b hb e=>HN1.out.uj O1.out aM e hb);refine aJ (fun w3=>vC 206 w3 p mb (.slice a2 (nd.length+1) q2) vo ed/\vU Tryz.prog 9 3 sj w3 mb (nd++ [x])/\iA 9 1 w3 (.slice a2 (nd.length+1) q2) (nd.length+1) (nY nd.length (lv sj nd) (fun _ _=>sj x))/\iA 142 1 w3 vo os.length (fun j _=>ov j)/\fV (fun b=>b=p) w2 w3) ⟨R2.out.set1 _,M2.out.gL (fV.set (fun b=>b=p) _ ⟨p,1,none⟩ _ rfl) (fun e=>M2.out.vM (e▸R2.out.row)),N2.out.gL (fV.set (fun b=>b=p) _ ⟨p,1,none⟩ _ rfl) (fun b hb e=>N2.out.ig R2.out.row aM (e▸hb)),O2.out.gL (fV.set (fun b=>b=p) _ ⟨p,1,none⟩ _ rfl) (fun b hb e=>O2.out.ig R2.out.row aM (e▸hb)),fV.set (fun b=>b=p) _ ⟨p,1,none⟩ _ rfl⟩ ?_;rintro w3 ⟨r3,m3,n3,o3,c3⟩;have R3:=ay r3;have M3:=ay m3;have N3:=ay n3;have C3:=ay c3;obtain⟨ao,co,eo,_⟩:=o3.slice;have HEO:=ay eo;have O3:=ay o3;have c1:=r3.c2;rw[eo] at c1;have hO3:=o3;rw[eo] at hO3;have HO3:=ay hO3;clear r3 m3 n3 o3 c3 eo hO3 e1 f1;go_upto_region 7 with(refine gM rfl _ _ rfl rfl rfl HO3.out Tryz.underlying204 Tryz.info142 rfl rfl rfl (by have:=HF.out;have:=HG.out.same;unfold maxLen;omega) (by have:=HF.out;have:=HG.out.same;omega) ?_;intro v4 w4 cK dL Yz;have C4:=ay (fV.tH dL);have R4:=ay (R3.out.gL C4.out (fun e=>HO3.out.ig R3.out.row aM e));have e1:=R4.out.c2;rw[HEO.out] at e1;have f1:=R4.out.row.free 2;have O4:=ay cK;have PL4:=ay Yz;obtain⟨a4,q4,rfl,_⟩:=cK.slice;clear cK dL Yz);have M4:=ay (M3.out.gL C4.out fun e=>HO3.out.kW M3.out e);have N4:=ay (N3.out.gL C4.out fun b hb e=>HO3.out.uj N3.out aM e hb);have hc5:fV (fun b=>b=p) w4 (w4.setCell ⟨p,2,none⟩ (.slice a4 (os.length+1) q4)):=fV.set (fun b=>b=p) _ ⟨p,2,none⟩ _ rfl;have ROW:=ay (R4.out.set2 (.slice a4 (os.length+1) q4));have MAP:=ay (M4.out.gL hc5 (fun e=>M4.out.vM (e▸R4.out.row)));have NOD:=ay ((N4.out.gL hc5 (fun b hb e=>N4.out.ig R4.out.row aM (e▸hb))).snoc rfl);have OUT:=ay ((O4.out.congr (q':=fun j _=>if j=os.length then .slice none 0 0 else ov j) fun j hj i hi=>by
   by_cases e:j=os.length
   ·subst e;rw[yw,if_pos rfl]
   ·rw[uU aH,if_neg e]).gL hc5 (fun b hb e=>O4.out.ig R4.out.row aM (e▸hb)))
  have CHG:Hid (fV (fun b=>b=p\/b=mb\/vn.ownBlock=some b\/vo.ownBlock=some b) w (w4.setCell ⟨p,2,none⟩ (.slice a4 (os.length+1) q4))):=
   (((((C1.out.mono fun _ _ h=>.inr (.inl h)).trans (C2.out.mono fun b _ h=>.inr (.inr (.inl (HEN.out▸h)))) fun _ _ h=>h).trans (C3.out.mono fun _ _ h=>.inl h) fun _ _ h=>h).trans (C4.out.mono fun b _ h=>.inr (.inr (.inr (HEO.out▸h)))) fun _ _ h=>h).trans (hc5.mono fun _ _ h=>.inl h) fun _ _ h=>h)
  have s1:=C1.out.size;have s2:=C2.out.size;have s3:=C3.out.size;have PN:Hid (∀b,(Value.slice a2 (nd.length+1) q2).ownBlock=some b->vn.ownBlock=some b\/w.heap.size<=b):=fun b hb=>by
   rw[HEN.out];rcases PL2.out with h | h
   ·exact .inl (h▸hb)
   ·exact .inr (by have:=h b hb;omega)
  have PO:Hid (∀b,(Value.slice a4 (os.length+1) q4).ownBlock=some b->vo.ownBlock=some b\/w.heap.size<=b):=fun b hb=>by
   rw[HEO.out];rcases PL4.out with h | h
   ·exact .inl (h▸hb)
   ·exact .inr (by have:=h b hb;omega)
  have FIN:=ay (HG.out.grow yJ.out H1.out HF.out ROW.out MAP.out NOD.out OUT.out CHG.out PN.out PO.out aM aM);have VD:Hid (fV (GF p mb vn vo os ov) w (w4.setCell ⟨p,2,none⟩ (.slice a4 (os.length+1) q4))):=CHG.out.mono fun b _ hb=>by
   rcases hb with h | h | h | h
   ·exact .inl h
   ·exact .inr (.inl h)
   ·exact .inr (.inr (.inl h))
   ·exact .inr (.inr (.inr (.inl h)))
  have aiD:Hid (∀b,GF p mb (.slice a2 (nd.length+1) q2) (.slice a4 (os.length+1) q4) (os++ [[]]) (fun j=>if j=os.length then .slice none 0 0 else ov j) b->GF p mb vn vo os ov b\/w.heap.size<=b):=by
   rintro b (h | h | h | h | ⟨j,hj,h⟩)
   ·exact .inl (.inl h)
   ·exact .inl (.inr (.inl h))
   ·exact(PN.out b h).imp (fun h=>.inr (.inr (.inl h))) id
   ·exact(PO.out b h).imp (fun h=>.inr (.inr (.inr (.inl h)))) id
   ·simp at hj
    dsimp only at h
    by_cases hjl:j=os.length
    ·rw[if_pos hjl] at h;cases h
    ·rw[if_neg hjl] at h;exact .inl (.inr (.inr (.inr (.inr ⟨j,by omega,h⟩))))
  clear hc5 s1 s2 s3 ROW MAP NOD OUT CHG PN PO M4 N4 O4 R4 R3 M3 N3 O3 HO3 HN1 R2 M2 N2 O2 R1 N1 O1;go_wp2;go_ret;exact⟨rfl,_,_,_,_,FIN.out,VD.out,aiD.out,.inr ⟨H1.out,rfl⟩⟩
end
def VB (B:Nat) (w:World) (p:Nat) (F:Nat->Prop) (E:List (ByteArray × ByteArray)):Prop:=
 (∃mb vn vo ov,GS B w p mb vn vo ov (cZ E) (VJ E) E.length/\∀b,F b ↔ GF p mb vn vo (VJ E) ov b)/\∀x,x ∈ cZ E->Lc x
section
variable {B : Nat} {w w' : World} {p : Nat} {F : Nat -> Prop} {E : List (ByteArray × ByteArray)}
theorem VB.below (h:VB B w p F E) (hb:Below w.heap.size w w'):VB B w' p F E:=by
 obtain⟨⟨mb,vn,vo,ov,h1,h2⟩,h3⟩:=h;exact⟨⟨mb,vn,vo,ov,h1.below hb,h2⟩,h3⟩
theorem VB.hi (h:VB B w p F E) {b:Nat} (hb:F b):B<=b:=by
 obtain⟨⟨mb,vn,vo,ov,h1,h2⟩,h3⟩:=h;exact h1.hi b ((h2 b).1 hb)
theorem OG (w:World):Calls Tryz.prog 111 #[] w fun e w'=> ∃p F,e=.returned (.pointer (some ⟨p,0,none⟩))/\VB w.heap.size w' p F [] /\Below w.heap.size w w':=by
 refine(XU w).mono ?_;rintro e w' ⟨p,mb,rfl,h1,h2⟩;exact⟨p,_,rfl,⟨⟨mb,_,_,_,h1,fun b=>Iff.rfl⟩,fun x hx=>by simp[cZ] at hx⟩,h2⟩
theorem Uu (h:VB B w p F E) (hB:B<=w.heap.size) (x y:ByteArray) (hx:Lc x) (hy:Lc y) (hE:E.length<=1000):Calls Tryz.prog 112 #[.pointer (some ⟨p,0,none⟩),sj x,sj y] w fun e w'=>e=.returned (.int .i64 0)/\∃F',VB B w' p F' (Qk E (x,y))/\fV F w w'/\∀b,F' b->F b\/w.heap.size<=b:=by
 obtain⟨⟨mb,vn,vo,ov,h1,hF⟩,hok⟩:=h;have HG:=ay h1;have Qt:=ay hF;have yM:=ay hok;have HX:=ay hx;have HY:=ay hy;have HE:=ay hE;have yJ:=ay hB;have HI:=ay (Rn h1);clear h1 hF hok hx hy hE hB;by_cases hin:(x,y) ∈ E
 ·rw[show Qk E (x,y)=E from if_pos hin];have HIN:=ay hin;clear hin
  go_enter Tryz.func112,Tryz.ntmps112
  go_wp2_with fail;refine HI.out.mono ?_;rintro e w' ⟨rfl,rfl⟩;go_wp2_with fail;refine(LU HG.out x y HX.out HY.out).mono ?_;rintro e w' ⟨b,rfl,hb,rfl⟩;rw[LW] at hb;obtain rfl:b=true:=hb.2 HIN.out;clear hb;go_wp2;go_ret;exact⟨rfl,F,⟨⟨mb,vn,vo,ov,HG.out,Qt.out⟩,yM.out⟩,.refl _ _,fun b hb=>.inl hb⟩
 ·rw[show Qk E (x,y)=E++ [(x,y)] from if_neg hin];have HIN:=ay hin;clear hin
  go_enter Tryz.func112,Tryz.ntmps112
  go_wp2_with fail;refine HI.out.mono ?_;rintro e w' ⟨rfl,rfl⟩;go_wp2_with fail;refine(LU HG.out x y HX.out HY.out).mono ?_;rintro e w' ⟨b,rfl,hb,rfl⟩;rw[LW] at hb;obtain rfl:b=false:=by
   cases b with
   | false=>rfl
   | true=>exact absurd (hb.1 rfl) HIN.out
  have c1:=HG.out.row.c1;have c3:=HG.out.row.c3;obtain⟨an,cn,en,_⟩:=HG.out.nodes.slice;have HEN:=ay en;rw[en] at c1;have dn:Hid (∀n,GS B (w'.drewN n) p mb vn vo ov (cZ E) (VJ E) E.length):=fun n=>HG.out.below (Go.bI.below_drewN (bT _ _) n);have hnl:=OD E;have hnw:=aco (cZ E) x y;have hfr:∀n,Calls Tryz.prog 169 #[.pointer (some ⟨p,0,none⟩),sj x,sj y] (w'.drewN n) fun e w''=>e=.returned (.int .i64 (newG (cZ E) x y))/\w''=w'.drewN n:=fun n=>Po (dn.out n) x y HX.out HY.out;have HNL:=ay hnl;obtain⟨nw,hNW⟩:∃nw,nw=newG (cZ E) x y:=⟨_,rfl⟩
  obtain⟨n0,hN0⟩:∃n0,n0=(cZ E).length:=⟨_,rfl⟩
  obtain⟨e0,hE0⟩:∃e0,e0=E.length:=⟨_,rfl⟩
  rw[<-hNW] at hfr hnw;rw[<-hN0] at c1 hnl;have hE1:=HE.out;rw[<-hE0] at c3 hnl hE1;have HFR:=ay hfr;have hlim:¬ (65536:Int)<(n0:Int)+nw:=by omega
  have Rs:¬ (65536:Int)<=(e0:Int):=by omega
  have hwr:IntKind.i64.wrap ((n0:Int)+nw)=(n0:Int)+nw:=jq aH aH;clear en hnl hnw hb hfr hE1 hNW hN0 hE0;go_wp2
  go_quiet (first | exact Calls.quiet_of_same (HFR.out _))
  rw[decide_eq_false (show ¬ (65536:Int)<(n0:Int)+nw by omega),decide_eq_false (show ¬ (65536:Int)<=(e0:Int) by omega)];clear hwr hlim Rs;go_wp2_with fail;refine(FJ (dn.out _) yJ.out x HX.out (by have:=HNL.out;have:=HE.out;omega)).mono ?_;rintro e w1 ⟨rfl,vn1,vo1,ov1,os1,g1,ch1,ft1,aky⟩;have gX:B<=w1.heap.size:=iw yJ.out ch1.size;obtain⟨ho1,hn1,hp1⟩:=KU (Ie E) (List.prefix_refl _) x os1 aky;have Vt:=DI (cZ E) x;have G1:=ay g1;have CH1:=ay ch1;have FT1:=ay ft1;have Jy:=ay ho1;have HN1:=ay hn1;have HP1:=ay hp1;have HB1:=ay gX;have HLL:=ay (show (addN (cZ E) x).length<1000000 by have:=HNL.out;have:=HE.out;omega);clear g1 ch1 ft1 ho1 hn1 hp1 gX aky Vt;go_wp2_with fail;refine(FJ G1.out HB1.out y HY.out HLL.out).mono ?_;rintro e w2 ⟨rfl,vn2,vo2,ov2,os2,g2,ch2,ft2,agC⟩;rw[Jy.out] at agC;obtain⟨ho2,hn2,hp2⟩:=KU HN1.out HP1.out y os2 agC;rw[ho2] at g2;have hx2:x ∈ addN (addN (cZ E) x) y:=lI.2 (.inl (lI.2 (.inr rfl)));have hy2:y ∈ addN (addN (cZ E) x) y:=lI.2 (.inr rfl);have hA:kQ (addN (cZ E) x) x=kQ (addN (addN (cZ E) x) y) x:=(rH hn2 (um _ _) (lI.2 (.inr rfl))).symm;have ND:Hid (addN (addN (cZ E) x) y=cZ (E++ [(x,y)])):=ay (ni E (x,y)).symm;rw[hA];rw[ND.out] at g2 hx2 hy2 hn2 ⊢;obtain⟨Nn,YA⟩:∃Nn,Nn=cZ (E++ [(x,y)]):=⟨_,rfl⟩
  rw[<-YA] at g2 hx2 hy2 hn2 ⊢;have HND:=ay YA;obtain⟨A,hAA⟩:∃A,A=kQ Nn x:=⟨_,rfl⟩
  obtain⟨M,hMM⟩:∃M,M=kQ Nn y:=⟨_,rfl⟩
  have hml:(KV Nn E)[A]? =some ((tgt E x).map (kQ Nn)):=by rw[hAA];exact ze (jH hx2)
  have aaF:Hid ((KV Nn E).set A ((tgt E x).map (kQ Nn)++ [M])=VJ (E++ [(x,y)])):=by
   rw[hAA,hMM];unfold VJ;rw[<-YA];exact XH hn2 hx2
  have hM:M<Nn.length:=by rw[hMM];exact qh hy2
  rw[<-hAA,←hMM];have hlx:((tgt E x).map (kQ Nn)).length<=1000:=by rw[List.length_map];exact iw (QF E x) HE.out
  obtain⟨l,hl⟩:∃l,l=(tgt E x).map (kQ Nn):=⟨_,rfl⟩
  rw[<-hl] at hml aaF hlx;have ail:Hid (os2=KV Nn E):=by rw[YA,←ND.out];exact ho2
  have G2:=ay g2;have VD:=ay ch2;have FT2:=ay ft2;have Sc:=ay hml;have HM:=ay hM;have HLX:=ay hlx;have hAl:A<(KV Nn E).length:=(List.getElem?_eq_some_iff.1 hml).1;have Vy:=ay hAl;obtain⟨gg,cg,eg,hrg,hcg,awv,hcell⟩:=g2.out.form aH;have hz:=hcell A hAl 0 aM;rw[show A * 1+0=A by omega] at hz;have HZ:=ay hz;have HRG:=ay hrg;have c2:=g2.row.c2;have LI:=ay (g2.lists A l hml);obtain⟨al,cl,el,_⟩:=LI.out.slice;have Vw:=ay el;rw[eg] at c2;have Jq:=ay c2;have HEG:=ay eg;clear g2 ch2 ft2 agC ho2 hn2 hp2 hx2 hy2 hA YA hAA hMM hml hM hlx hl hAl hcell hz hrg c2 el eg c1 c3;go_upto_region 9 with(fail)
  apply sW (n:=66) (fun w5=>w5.cell? ⟨p,2,none⟩=some (.slice (some ⟨gg,0,none⟩) (KV Nn E).length cg)/\w5.cell? ⟨gg,A,none⟩=some (ov2 A)) [.e,.e,.e,.e,.e,.e,.e,.e,.e,.e,.e,.e,.e,.c,.c,.e,.c] 2 aQ aQ aQ rfl
  ·exact⟨Jq.out,HZ.out⟩
  ·rintro w5 ⟨e2,e3⟩;rw[Vw.out] at e3;have h9:(A:Int)<(KV Nn E).length:=by have:=Vy.out;omega
   simp only[fP,Cl.Jv,cond_true,cond_false]
   repeat still_step
   exact wpStill_nil rfl
  ·intro w5;simp only[fP,Cl.isF,cond_true,cond_false]
   repeat still_step
   exact wpStill_nil rfl
  ·simp only[fP,Cl.qR,cond_true,cond_false];refine uf ⟨Jq.out,HZ.out⟩ (fun K hK=>?_);rw[if_pos (dA rfl)];have b7:Below w2.heap.size w2 (w2.drew.alloc (.cells #[.int .i64 (M:Int)] 3)):=((bT _ _).drew).alloc (bH _) _;refine yN 142 3 1 _ rfl Tryz.underlying142 #[.int .i64 (M:Int)] aQ (hK _ _ ⟨(b7.cell (p:=⟨p,2,none⟩) G2.out.row.row.lt).trans Jq.out,(b7.cell (p:=⟨gg,A,none⟩) HRG.out.lt).trans HZ.out⟩ ?_);clear hK K;have hl7:iA 3 1 w2.drew (.slice al l.length cl) l.length (lv kF l):=Vw.out▸LI.out.below ((bT _ _).drew);refine uf ⟨(b7.cell (p:=⟨p,2,none⟩) G2.out.row.row.lt).trans Jq.out,(b7.cell (p:=⟨gg,A,none⟩) HRG.out.lt).trans HZ.out⟩ (fun K hK=>?_);refine aN <| sH _ _ rfl rfl (hl7.alloc _) aM Tryz.underlying142 Tryz.info3 rfl w2.drew.heap.size 0 1 1 rfl (fun _ _=>.int .i64 (M:Int)) (fun j' hj' i hi=>⟨?_,rfl⟩) (by have:=HLX.out;unfold maxLen;omega) (by have:=HLX.out;omega) ?_
   ·obtain rfl:j'=0:=by omega
    obtain rfl:i=0:=by omega
    rw[cell_of_row _ _ _ _ _ (0,0) (heap_alloc_new w2.drew _)]
    rfl
   ·intro v4 w4 cK dL hpl;have C4:fV (fun b=>(ov2 A).ownBlock=some b) w2 w4:=(fV.of_below b7 _).trans (fV.jP dL fun b hb=>by rw[Vw.out];exact hb) fun _ _ h=>h;have R4:=G2.out.row.gL C4 (fun e=>LI.out.ig G2.out.row.row aM e);have hG4:=HRG.out.heap (C4.block gg HRG.out.lt fun e=>LI.out.ig HRG.out aM e);have e3:w4.cell? ⟨gg,A,none⟩=some (ov2 A):=(C4.cell (p:=⟨gg,A,none⟩) HRG.out.lt fun e=>LI.out.ig HRG.out aM e).trans HZ.out;refine hK _ _ ⟨by have:=R4.c2;rw[HEG.out] at this;exact this,e3⟩ (MI ?_);clear hK K;rw[Vw.out] at e3;have f3:=hG4.free A;have O4:=G2.out.out.gL C4 (fun b hb e=>LI.out.uj G2.out.out aM e hb);rw[HEG.out] at O4;have O5:=O4.set A 0 Vy.out aM v4;rw[show A * 1+0=A by omega] at O5;have c5:fV (fun b=>b=gg) w4 (w4.setCell ⟨gg,A,none⟩ v4):=.set _ _ _ _ rfl;have hpg:¬ p=gg:=fun e=>absurd (R4.row.type (e▸hG4)) aM;have R5:=ay (R4.gL c5 hpg);have LV5:=ay ((cK.snoc rfl:iA 3 1 w4 v4 (l++ [M]).length (lv kF (l++ [M]))).gL c5 (fun b hb e=>by
     obtain⟨m9,hr9⟩:=cK.rowOf hb;exact absurd ((e▸hr9).type hG4) aM))
    have PV:Hid (∀b,v4.ownBlock=some b->(ov2 A).ownBlock=some b\/w2.heap.size<=b):=fun b hb=>by
     rw[Vw.out];rcases hpl with h | h
     ·exact .inl (h▸hb)
     ·have h1:=h b hb;rw[World.size_alloc] at h1;exact .inr (by have h2:w2.drew.heap.size=w2.heap.size:=rfl;omega)
    have O5:=ay (O5.congr (q':=fun j _=>if j=A then v4 else ov2 j) fun j hj i hi=>by
     obtain rfl:i=0:=by omega
     by_cases e:j=A
     ·rw[if_pos ⟨e,rfl⟩,if_pos e]
     ·rw[if_neg (fun h=>e h.1),if_neg e])
    have C45:=ay ((C4.mono fun _ _ h=>.inr (.inr h)).trans (c5.mono (G:=fun b=>b=p\/vo2.ownBlock=some b\/(ov2 A).ownBlock=some b) fun b _ h=>.inr (.inl (by rw[HEG.out,h];rfl))) fun _ _ h=>h);obtain⟨a4,q4,rfl,_⟩:=cK.slice;have h9:(A:Int)<(KV Nn E).length:=by have:=Vy.out;omega
    clear C4 R4 hG4 O4 c5 hpg cK dL hpl b7 hl7;go_wp2;refine KZ ?_;have k3:=R5.out.c3;have f4:=R5.out.row.free 3;have hwr:IntKind.i64.wrap ((E.length:Int)+1)=(E.length:Int)+1:=jq aH (by have:=HE.out;omega);have HWR:((E.length:Int)+1)=((E.length+1:Nat):Int):=by omega
    have R6:=ay (R5.out.aoK (E.length+1));have c6:fV (fun b=>b=p) (w4.setCell ⟨gg,A,none⟩ (.slice a4 (l.length+1) q4)) ((w4.setCell ⟨gg,A,none⟩ (.slice a4 (l.length+1) q4)).setCell ⟨p,3,none⟩ (kF (E.length+1))):=.set _ _ _ _ rfl;have LV6:=ay (LV5.out.gL c6 fun b hb e=>by
     obtain⟨m9,hr9⟩:=LV5.out.rowOf hb;exact absurd ((e▸hr9).type R5.out.row) aM)
    have O6:=ay (O5.out.gL c6 fun b hb e=>by
     obtain⟨m9,hr9⟩:=O5.out.rowOf hb;exact absurd ((e▸hr9).type R5.out.row) aM)
    have CH6:=ay (C45.out.trans (c6.mono fun _ _ h=>.inl h) fun _ _ h=>h);have FIN:=ay (G2.out.link (iw HB1.out VD.out.size) Sc.out HM.out (by have:=HLX.out;omega) (by have:=HE.out;omega) R6.out (by rw[HEG.out];exact O6.out) LV6.out CH6.out PV.out aM aM aM aM);rw[aaF.out,HND.out] at FIN;have CH7:=ay (((CH1.out.mono fun b _ h=>(Qt.out b).2 h).trans (VD.out.mono (G:=fun b=>F b\/w'.heap.size<=b) fun b _ h=>(FT1.out b h).imp (Qt.out b).2 id) fun b hb h=>h.resolve_right (by have h2:(w'.drewN nq).heap.size=w'.heap.size:=rfl;omega)).trans (CH6.out.mono (G:=fun b=>F b\/w'.heap.size<=b) fun b _ h=>by
     have h3:GF p mb vn2 vo2 os2 ov2 b:=by
      rcases h with h | h | h
      ·exact .inl h
      ·exact .inr (.inr (.inr (.inl h)))
      ·exact .inr (.inr (.inr (.inr ⟨A,by rw[ail.out];exact Vy.out,h⟩)))
     rcases FT2.out b h3 with h4 | h4
     ·exact(FT1.out b h4).imp (Qt.out b).2 id
     ·exact .inr (iw CH1.out.size h4)) fun b hb h=>h.resolve_right (by have h2:(w'.drewN nq).heap.size=w'.heap.size:=rfl;omega))
    have aiD:Hid (∀b,GF p mb vn2 vo2 (VJ (E++ [(x,y)])) (fun j=>if j=A then .slice a4 (l.length+1) q4 else ov2 j) b->F b\/w'.heap.size<=b):=fun b hb=>by
     have h3:GF p mb vn2 vo2 os2 ov2 b\/w2.heap.size<=b:=by
      rcases hb with h | h | h | h | ⟨j,hj,h⟩
      ·exact .inl (.inl h)
      ·exact .inl (.inr (.inl h))
      ·exact .inl (.inr (.inr (.inl h)))
      ·exact .inl (.inr (.inr (.inr (.inl h))))
      ·rw[<-aaF.out,List.length_set] at hj
       dsimp only at h
       by_cases hja:j=A
       ·rw[if_pos hja] at h;exact(PV.out b h).imp (fun h=>.inr (.inr (.inr (.inr ⟨A,by rw[ail.out];exact Vy.out,h⟩)))) id
       ·rw[if_neg hja] at h;exact .inl (.inr (.inr (.inr (.inr ⟨j,by rw[ail.out];exact hj,h⟩))))
     rcases h3 with h3 | h3
     ·rcases FT2.out b h3 with h4 | h4
      ·exact(FT1.out b h4).imp (Qt.out b).2 id
      ·exact .inr (iw CH1.out.size h4)
     ·exact .inr (iw CH1.out.size (iw VD.out.size h3))
    have OKS:Hid (∀z,z ∈ cZ (E++ [(x,y)])->Lc z):=fun z hz=>by
     rw[ni,lI,lI] at hz;rcases hz with(h | h) | h
     ·exact yM.out z h
     ·exact h▸HX.out
     ·exact h▸HY.out
    have e9:kF (E.length+1)=.int .i64 ((E.length:Int)+1):=congrArg (Value.int .i64) aH;have arH:Hid (GS B ((w4.setCell ⟨gg,A,none⟩ (.slice a4 (l.length+1) q4)).setCell ⟨p,3,none⟩ (.int .i64 ((E.length:Int)+1))) p mb vn2 vo2 (fun j=>if j=A then .slice a4 (l.length+1) q4 else ov2 j) (cZ (E++ [(x,y)])) (VJ (E++ [(x,y)])) (E++ [(x,y)]).length):=by
     rw[<-e9,List.length_append,List.length_singleton];exact FIN.out
    have CH8:Hid (fV F w' ((w4.setCell ⟨gg,A,none⟩ (.slice a4 (l.length+1) q4)).setCell ⟨p,3,none⟩ (.int .i64 ((E.length:Int)+1)))):=by
     rw[<-e9];exact⟨CH7.out.os,CH7.out.tape,CH7.out.output,CH7.out.size,fun b hb hn=>CH7.out.block b hb hn⟩
    clear e9 HWR c6;go_wp2;go_ret;exact⟨rfl,_,⟨⟨mb,_,_,_,arH.out,fun b=>Iff.rfl⟩,OKS.out⟩,CH8.out,aiD.out⟩
end
abbrev SS (B:Nat) (w:World) (mb:Nat) (va vb:Value) (s:List ByteArray × List Int):Prop:=Sr Tryz.prog 9 3 sj B w mb va vb s
section
variable {B : Nat} {w w' : World} {p : Nat} {F : Nat -> Prop} {E : List (ByteArray × ByteArray)}
theorem Kl (h:VB B w p F E) (fr:List ByteArray) (v:Value) (hv:Ns w v fr.length 1 (lv sj fr)) (hok:∀x,x ∈ fr->Lc x) (hfr:fr.length<=1000) (hE:E.length<=1000):Calls Tryz.prog 171 #[.pointer (some ⟨p,0,none⟩),v] w fun e w'=> ∃va vb,e=.returned (.tuple #[va,vb])/\(∃Np,SS w.heap.size w' Np va vb (sM E fr))/\Below w.heap.size w w':=by
 obtain⟨a,cap,rfl,hcap,hcap2,hcell⟩:=hv.one;have HC:=ay hcell;have HGE:=ay h;obtain⟨⟨mb,vn,vo,ov,hg,Um⟩,akA⟩:=h;have HG:=ay hg;have amh:=ay akA;have yM:=ay hok;have HFR:=ay hfr;have HE:=ay hE;obtain⟨B0,hB0⟩:∃x,x=w.heap.size:=⟨_,rfl⟩
 have HB0:=ay hB0;rw[<-hB0];have awq:=hfr;clear hcell hv hg akA Um hok hfr hE hB0;have hmk:∀w,(Instr.makeMap 161 none).run Tryz.prog w=.ok (.map (some w.heap.size)) (w.alloc (.map #[] 0)):=fun w=>rfl
 go_enter Tryz.func171,Tryz.ntmps171
 go_upto_region 2 with(fail);clear hmk;refine aJ (fun w1=> ∃Np,Np=w.heap.size/\SS B0 w1 Np (.slice none 0 0) (.slice none 0 0) ([], [])/\Below B0 w w1) ⟨w.heap.size,rfl,Sr.start (Nat.le_of_eq HB0.out),(bT _ _).alloc (Nat.le_of_eq HB0.out) _⟩ ?_;rintro w1 ⟨Np,akB,hs1,gX⟩;rw[<-akB];have S0:=ay hs1;have B1:=ay gX;clear akB hs1 gX;go_wp2
 go_loopw [22,4,5] (fun i all PZ wr=> ∃k:Nat,k<=fr.length/\i=.int .i64 k/\SS B0 wr Np all PZ ((fr.take k).foldl (vis (-1)) ([], []))/\Below B0 w wr) (fun i _ _ _=>fr.length - (intOf i).toNat)
 case atStart=>exact⟨0,jm _,rfl,S0.out,B1.out⟩
 case round=>
  obtain⟨k,hk,rfl,hS,Pn⟩:=hrel;have rR:=ay Pn;have HS:=ay hS;clear Pn hS;by_cases hlt:k<fr.length
  ·obtain⟨b,o,rfl,hbl,z0⟩:=HC.out k hlt;obtain⟨x,hx⟩:∃x,fr[k]? =some x:=⟨_,kP hlt⟩
   rw[lY hx] at z0;have z1:=(rR.out.cell (p:=⟨b,o+k,none⟩) (HB0.out▸hbl)).trans z0;have hstep:=EX (i:= -1) (s:=(([], []):List ByteArray × List Int)) hx;have adN:=ay (yM.out x (List.mem_of_getElem? hx));have hlen:=BI (-1) (fr.take k) (([], []):List ByteArray × List Int);have hll:=wU (-1) (fr.take k) (([], []):List ByteArray × List Int) rfl;obtain⟨s,hs⟩:∃s,s=(fr.take k).foldl (vis (-1)) (([], []):List ByteArray × List Int):=⟨_,rfl⟩
   rw[<-hs] at HS hstep hlen hll;have HST:=ay hstep;have HLEN:=ay (show s.1.length<=3000 by have:=HFR.out;rw[List.length_take] at hlen;simp only[List.length_nil] at hlen;omega);have HLL:=ay hll;clear hs hx z0 hstep hlen hll;by_cases hin:x ∈ s.1
   ·have l1:=oM.kN HS.out.map hin;have DX:=ay (HST.out.trans (Wn hin));clear hin;go_wp2;go_roundw
    case rel=>first | exact⟨k+1,by omega,by go_num,by rw[DX.out];exact HS.out,rR.out⟩ | ((repeat apply Exists.intro);exact⟨⟨k+1,by omega,by go_num,by rw[DX.out];exact HS.out,rR.out⟩,rfl⟩)
    case measure=>simp[intOf];omega
   ·have hnot:x ∉ s.1:=hin;have l1:=oM.nJ HS.out.map adN.out hin;have DX:=ay (HST.out.trans (Qz hin));clear hin;obtain⟨wm,hrun,hm1,hg1⟩:=oM.put HS.out.map adN.out hnot (by have:=HLEN.out;omega);have HM1:=ay hm1;have Sd:=ay hg1;have A1:=HS.out.all.gL (fV.jP (F:=fun b=>b=Np) hg1 fun b hb=>by cases hb;rfl) fun b hb e=>HS.out.all.kW HS.out.map (e▸hb);have Y1:=HS.out.PZ.gL (fV.jP (F:=fun b=>b=Np) hg1 fun b hb=>by cases hb;rfl) fun b hb e=>HS.out.PZ.kW HS.out.map (e▸hb);obtain⟨aA,cA,eA,_⟩:=A1.slice;obtain⟨aY,cY,eY,_⟩:=Y1.slice;subst eA;subst eY;have A1:=ay A1;have Y1:=ay Y1;have AP:=ay HS.out.apart;clear hm1 hg1 hnot;go_wp2_with (first | (refine gM rfl _ _ rfl rfl rfl A1.out Tryz.underlying81 Tryz.infoString rfl rfl rfl (by have:=HLEN.out;unfold maxLen;omega) (by have:=HLEN.out;omega) ?_;intro v2 w2 ho2 hg2 hp2;have Y2:=ay (Y1.out.gL (fV.tH hg2) fun b hb e=>AP.out b e hb);have O2:=ay ho2;have G2:=ay hg2;have P2:=ay hp2;obtain⟨a2,q2,rfl,_⟩:=ho2.slice;clear ho2 hg2 hp2) | (refine gM rfl _ _ rfl rfl rfl Y2.out Tryz.underlying142 Tryz.info3 rfl rfl rfl (by have:=HLEN.out;have:=HLL.out;unfold maxLen;omega) (by have:=HLEN.out;have:=HLL.out;omega) ?_;intro v3 w3 ho3 hg3 hp3;have O3:=ay ho3;have G3:=ay hg3;have P3:=ay hp3;obtain⟨a3,q3,rfl,_⟩:=ho3.slice;clear ho3 hg3 hp3));obtain⟨HS3,HB3⟩:=HS.out.add (k:=x) (i:= -1) (by have:=rR.out.size;have:=HB0.out;omega) HM1.out Sd.out O2.out rfl G2.out P2.out O3.out rfl G3.out P3.out;have HS3:=ay HS3;have HB3:=ay (rR.out.trans HB3);go_roundw
    case rel=>first | exact⟨k+1,by omega,by go_num,by rw[DX.out];exact HS3.out,HB3.out⟩ | ((repeat apply Exists.intro);exact⟨⟨k+1,by omega,by go_num,by rw[DX.out];exact HS3.out,HB3.out⟩,rfl⟩)
    case measure=>simp[intOf];omega
  ·obtain rfl:k=fr.length:=by omega
   have hs1:=HS.out;rw[List.take_length] at hs1;have S1:=ay hs1;clear hs1 HS S0 B1 hlt;go_wp2
   go_loopw [11,4,5] (fun i all PZ wr=> ∃k:Nat,i=.int .i64 k/\k<=(gK E fr k).1.length/\SS B0 wr Np all PZ (gK E fr k)/\Below B0 w wr) (fun i _ _ _=>fr.length+E.length - (intOf i).toNat)
   case atStart=>exact⟨0,rfl,jm _,S1.out,rR.out⟩
   case round=>
    obtain⟨k1,rfl,hk1,hS1,aln⟩:=hrel;have rR:=ay aln;have HS:=ay hS1;clear aln hS1;obtain⟨aA,cA,eA,_⟩:=HS.out.all.slice;subst eA;have agU:=rE (E:=E) (fr:=fr) k1;have EH:=HFR.out;have heb:=HE.out;have HGw:=ay (HG.out.below (HB0.out▸rR.out));by_cases hlt:k1<(gK E fr k1).1.length
    ·obtain⟨x,hx⟩:∃x,(gK E fr k1).1[k1]? =some x:=⟨_,kP hlt⟩
     obtain⟨g0,c0',e0,hr0,_,_,hcell0⟩:=HS.out.all.form aH;simp only[VQ,true_and] at e0;obtain⟨rfl,rfl⟩:=e0;have z0:=hcell0 k1 hlt 0 aM;rw[show k1 * 1+0=k1 by omega,lY hx] at z0;have hk9:(k1:Int)<((gK E fr k1).1.length:Int):=by omega
     have hk8:(k1:Int)<1000000:=by omega
     have HXX:=ay hx;have adN:Hid (Lc x):=by
      rcases Kk k1 x (List.mem_of_getElem? hx) with h | ⟨e,he,rfl⟩
      ·exact yM.out x h
      ·exact amh.out _ (oL.2 ⟨e,he,.inr rfl⟩)
     have c0:=HGw.out.row.c0;have c1:=HGw.out.row.c1;have c2:=HGw.out.row.c2;have wN:=ay hlt;have aiA:=ay agU;have HFB:=ay EH;have HEB:=ay heb;clear hx hcell0 hr0 agU EH heb hlt;go_wp2_with fail;refine(Rn HGw.out).mono ?_;rintro e w4 ⟨rfl,rfl⟩;by_cases hin:x ∈ cZ E
     ·have l1:∀n,(Instr.lookup 161 (.map (some mb)) (sj x) true).run Tryz.prog (w4.drewN n)=.ok (.tuple #[kF (kQ (cZ E) x),.bool true]) (w4.drewN n):=fun n=>oM.kN (HGw.out.below (Go.bI.below_drewN (bT _ _) n)).map hin;have hxn:kQ (cZ E) x<(VJ E).length:=by rw[<-HG.out.same];exact qh hin
      have hol:(VJ E)[kQ (cZ E) x]? =some ((tgt E x).map (kQ (cZ E))):=ze (jH hin);obtain⟨X,hX⟩:∃X,X=kQ (cZ E) x:=⟨_,rfl⟩
      rw[<-hX] at l1 hxn hol;clear hin hX;obtain⟨gg,cg,eg,hrg,_,_,hcg⟩:=HGw.out.out.form aH;have y0:=hcg X hxn 0 aM;rw[show X * 1+0=X by omega] at y0;rw[eg] at c2;have LI:=ay (HG.out.lists X _ hol);obtain⟨T,hT⟩:∃T,T=tgt E x:=⟨_,rfl⟩
      have hstp:=yS HXX.out;rw[<-hT] at LI hstp;have alV:=ay hstp;have HTT:=ay hT;obtain⟨L,hL⟩:∃L,L=T.map (kQ (cZ E)):=⟨_,rfl⟩
      rw[<-hL] at LI;have hll:L.length=T.length:=by rw[hL,List.length_map]
      have HLE:=ay hL;obtain⟨al,cl,el,_⟩:=LI.out.slice;rw[el] at y0;have Vw:=ay el;have h9:(X:Int)<((VJ E).length:Int):=by omega
      have HTL:=ay (show T.length<=1000 by rw[hT];exact iw (QF E x) HEB.out);have adP:=ay hll;have aqN:=ay (WX (E:=E) (fr:=fr) k1);obtain⟨s,hs⟩:∃s,s=gK E fr k1:=⟨_,rfl⟩
      have HSQ:=ay hs;rw[<-hs] at HS hk9 alV ⊢;clear hol hxn hcg hrg eg hT hL hll el hstp hs;go_wp2
      go_quiet (fail)
      have HS5:=ay (HS.out.below (Go.bI.below_drewN (bT _ _) nq));have VZ:=ay (Go.bI.below_drewN rR.out nq);go_wp2
      go_loopw [78,4,5] (fun i all PZ wr=> ∃t:Nat,t<=T.length/\i=.int .i64 t/\SS B0 wr Np all PZ ((T.take t).foldl (vis k1) s)/\Below B0 w wr) (fun i _ _ _=>T.length - (intOf i).toNat)
      case atStart=>exact⟨0,jm _,rfl,HS5.out,VZ.out⟩
      case round=>
       obtain⟨t,ht,rfl,hS6,hB6⟩:=hrel;have rR:=ay hB6;have HS:=ay hS6;clear hB6 hS6;have HGv:=ay (HG.out.below (HB0.out▸rR.out));by_cases akE:t<T.length
       ·obtain⟨y,hy⟩:∃y,T[t]? =some y:=⟨_,kP akE⟩
        have hyn:y ∈ cZ E:=yQ (x:=x) (by rw[<-HTT.out];exact List.mem_of_getElem? hy);have hlt':L[t]? =some (kQ (cZ E) y):=by rw[HLE.out,List.getElem?_map,hy];rfl
        obtain⟨gl,cl',e7,_,_,_,hc7⟩:=(LI.out.below (HB0.out▸rR.out)).form (by have:=adP.out;omega);rw[Vw.out] at e7;simp only[VQ,true_and] at e7;obtain⟨rfl,rfl⟩:=e7;have z7:=hc7 t (by have:=adP.out;omega) 0 aM;rw[show t * 1+0=t by omega,lY hlt'] at z7;have hyl:kQ (cZ E) y<(cZ E).length:=qh hyn;obtain⟨gn,cn,en,_,_,_,hcn⟩:=HGv.out.nodes.form aH;have z8:=hcn _ hyl 0 aM;rw[show kQ (cZ E) y * 1+0=kQ (cZ E) y by omega,lY (jH hyn)] at z8;have c1:=HGv.out.row.c1;rw[en] at c1;have ht9:(t:Int)<(L.length:Int):=by have:=adP.out;omega
        have ht8:(t:Int)<1000000:=by have:=HTL.out;omega
        have hy9:((kQ (cZ E) y:Nat):Int)<((cZ E).length:Int):=by omega
        obtain⟨Y,hY⟩:∃Y,Y=kQ (cZ E) y:=⟨_,rfl⟩
        rw[<-hY] at z7 z8 hy9;have amg:=ay (amh.out y hyn);have hstep:=EX (i:=(k1:Int)) (s:=s) hy;have hlen:=BI (k1:Int) (T.take t) s;have Yx:=wU (k1:Int) (T.take t) s (by rw[HSQ.out];exact aqN.out);have hsb:s.1.length<=2000:=by rw[HSQ.out];have:=aiA.out;have:=HFB.out;have:=HEB.out;omega
        obtain⟨s',hs'⟩:∃s',s'=(T.take t).foldl (vis (k1:Int)) s:=⟨_,rfl⟩
        rw[<-hs'] at HS hstep hlen Yx;have HST:=ay hstep;have HLEN:=ay (show s'.1.length<=3000 by have:=HTL.out;rw[List.length_take] at hlen;omega);have HLL:=ay Yx;have HK8:=ay hk8;clear hs' hy hyn hlt' hc7 hcn hyl en hY hstep hlen Yx hsb hk9 hk8;by_cases hin:y ∈ s'.1
        ·have l2:=oM.kN HS.out.map hin;have DX:=ay (HST.out.trans (Wn hin));clear hin;go_wp2;go_roundw
         case rel=>first | exact⟨t+1,by omega,by go_num,by rw[DX.out];exact HS.out,rR.out⟩ | ((repeat apply Exists.intro);exact⟨⟨t+1,by omega,by go_num,by rw[DX.out];exact HS.out,rR.out⟩,rfl⟩)
         case measure=>simp[intOf];omega
        ·have hnot:y ∉ s'.1:=hin;have l2:=oM.nJ HS.out.map amg.out hin;have DX:=ay (HST.out.trans (Qz hin));clear hin;obtain⟨wm,hrun,hm1,hg1⟩:=oM.put HS.out.map amg.out hnot (by have:=HLEN.out;omega);have HM1:=ay hm1;have Sd:=ay hg1;have A1:=HS.out.all.gL (fV.jP (F:=fun b=>b=Np) hg1 fun b hb=>by cases hb;rfl) fun b hb e=>HS.out.all.kW HS.out.map (e▸hb);have Y1:=HS.out.PZ.gL (fV.jP (F:=fun b=>b=Np) hg1 fun b hb=>by cases hb;rfl) fun b hb e=>HS.out.PZ.kW HS.out.map (e▸hb);obtain⟨aA,cA,eA,_⟩:=A1.slice;obtain⟨aY,cY,eY,_⟩:=Y1.slice;subst eA;subst eY;have A1:=ay A1;have Y1:=ay Y1;have AP:=ay HS.out.apart;clear hm1 hg1 hnot;go_wp2_with (first | (refine gM rfl _ _ rfl rfl rfl A1.out Tryz.underlying81 Tryz.infoString rfl rfl rfl (by have:=HLEN.out;unfold maxLen;omega) (by have:=HLEN.out;omega) ?_;intro v2 w2 ho2 hg2 hp2;have Y2:=ay (Y1.out.gL (fV.tH hg2) fun b hb e=>AP.out b e hb);have O2:=ay ho2;have G2:=ay hg2;have P2:=ay hp2;obtain⟨a2,q2,rfl,_⟩:=ho2.slice;clear ho2 hg2 hp2) | (refine gM rfl _ _ rfl rfl rfl Y2.out Tryz.underlying142 Tryz.info3 rfl rfl rfl (by have:=HLEN.out;have:=HLL.out;unfold maxLen;omega) (by have:=HLEN.out;have:=HLL.out;omega) ?_;intro v3 w3 ho3 hg3 hp3;have O3:=ay ho3;have G3:=ay hg3;have P3:=ay hp3;obtain⟨a3,q3,rfl,_⟩:=ho3.slice;clear ho3 hg3 hp3));obtain⟨HS3,HB3⟩:=HS.out.add (k:=y) (i:=(k1:Int)) (by have:=rR.out.size;have:=HB0.out;omega) HM1.out Sd.out O2.out rfl G2.out P2.out O3.out rfl G3.out P3.out;have HS3:=ay HS3;have HB3:=ay (rR.out.trans HB3);go_roundw
         case rel=>first | exact⟨t+1,by omega,by go_num,by rw[DX.out];exact HS3.out,HB3.out⟩ | ((repeat apply Exists.intro);exact⟨⟨t+1,by omega,by go_num,by rw[DX.out];exact HS3.out,HB3.out⟩,rfl⟩)
         case measure=>simp[intOf];omega
       ·obtain rfl:t=T.length:=by omega
        have hfull:Hid (gK E fr (k1+1)=(T.take T.length).foldl (vis k1) s):=by rw[List.take_length];exact alV.out
        have hpre:=(GQ (E:=E) (fr:=fr) k1).1.length_le;have amb:=ay hpre;have asw:¬ (T.length:Int)<(L.length:Int):=by have:=adP.out;omega
        clear hpre akE;go_wp2;go_roundw
        case rel=>first | exact⟨k1+1,by go_num,by have:=wN.out;have:=amb.out;omega,by rw[hfull.out];exact HS.out,rR.out⟩ | ((repeat apply Exists.intro);exact⟨⟨k1+1,by go_num,by have:=wN.out;have:=amb.out;omega,by rw[hfull.out];exact HS.out,rR.out⟩,rfl⟩)
        case measure=>have:=wN.out;have:=aiA.out;simp[intOf];omega
     ·have l1:∀n,(Instr.lookup 161 (.map (some mb)) (sj x) true).run Tryz.prog (w4.drewN n)=.ok (.tuple #[.int .i64 0,.bool false]) (w4.drewN n):=fun n=>oM.nJ (HGw.out.below (Go.bI.below_drewN (bT _ _) n)).map adN.out hin;have DX:Hid (gK E fr (k1+1)=gK E fr k1):=by rw[yS HXX.out,JM hin];exact rfl
      clear hin;go_wp2
      go_quiet (fail)
      go_wp2;have HS5:=ay (HS.out.below (Go.bI.below_drewN (bT _ _) nq));have VZ:=ay (Go.bI.below_drewN rR.out nq);go_roundw
      case rel=>first | exact⟨k1+1,by go_num,by rw[DX.out];exact wN.out,by rw[DX.out];exact HS5.out,VZ.out⟩ | ((repeat apply Exists.intro);exact⟨⟨k1+1,by go_num,by rw[DX.out];exact wN.out,by rw[DX.out];exact HS5.out,VZ.out⟩,rfl⟩)
      case measure=>have:=wN.out;have:=aiA.out;simp[intOf];omega
    ·have hend:(gK E fr k1).1.length=k1:=by omega
     have adR:=ay (Cc hend);have HEN:=ay hend;have hk9:¬ (k1:Int)<((gK E fr k1).1.length:Int):=by omega
     obtain⟨aY,cY,eY,_⟩:=HS.out.PZ.slice;subst eY;have HSF:Hid (SS B0 wr Np (.slice (aA) (gK E fr k1).1.length cA) (.slice aY (gK E fr k1).2.length cY) (sM E fr)):=by
      have key:∀s',s'=gK E fr k1->SS B0 wr Np (.slice (aA) (gK E fr k1).1.length cA) (.slice aY (gK E fr k1).2.length cY) s':=by rintro _ rfl;exact HS.out
      exact key _ adR.out
     clear hend agU EH heb hlt;go_wp2;go_ret2;exact⟨_,_,rfl,⟨Np,HSF.out⟩,rR.out⟩
end
section
variable {B : Nat} {w w' : World} {p : Nat} {F : Nat -> Prop} {E : List (ByteArray × ByteArray)}
theorem Oe (h:VB B w p F E) (fr:List ByteArray) (v:Value) (hv:Ns w v fr.length 1 (lv sj fr)) (hok:∀x,x ∈ fr->Lc x) (hfr:fr.length<=1000) (hE:E.length<=1000):Calls Tryz.prog 113 #[.pointer (some ⟨p,0,none⟩),v] w fun e w'=> ∃va,e=.returned va/\iA 9 1 w' va (sM E fr).1.length (lv sj (sM E fr).1)/\(∀b,va.ownBlock=some b->w.heap.size<=b)/\Below w.heap.size w w':=by
 have HS:=ay (Kl h fr v hv hok hfr hE);obtain⟨a,cap,rfl,_⟩:=hv.one;obtain⟨SS,hSS⟩:∃s,s=sM E fr:=⟨_,rfl⟩
 rw[<-hSS] at HS ⊢;clear h hv hok hfr hE hSS
 go_enter Tryz.func113,Tryz.ntmps113
 go_wp2_with fail;refine HS.out.mono ?_;rintro e w' ⟨va,vb,rfl,⟨Np,hs⟩,hb⟩;have S1:=ay hs;have B1:=ay hb;obtain⟨a1,c1,rfl,_⟩:=hs.all.slice;clear hs hb;go_wp2;go_ret;exact⟨_,rfl,S1.out.all,S1.out.ha,B1.out⟩
end
end Go.Proofs.YtpcjekgfnfjbpaaGreat
