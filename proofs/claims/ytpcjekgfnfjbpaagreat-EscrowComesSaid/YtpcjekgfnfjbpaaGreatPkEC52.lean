/- Part 52 of EscrowComes; conditions: in each theorem. -/
import Derived.Test.YtpcjekgfnfjbpaaGreatPkEC45
import Derived.Test.YtpcjekgfnfjbpaaGreatPkEC50
import Derived.Test.YtpcjekgfnfjbpaaGreatPkEC35
set_option linter.unusedVariables false
set_option linter.unusedSimpArgs false
set_option maxRecDepth 100000
set_option maxHeartbeats 6400000
namespace Go.bI
open Go.RowKit
def Qp (w:World) (v:Value) (T:TypeId) (n:Nat) (cs:Array Value):Prop:=∃b,v=.slice (some ⟨b,0,none⟩) n n/\w.heap[b]? =some (.cells cs T (0,0))
theorem Qp.below {w w':World} {v:Value} {T:TypeId} {n:Nat} {cs:Array Value} (h:Qp w v T n cs) (hb:Below w.heap.size w w'):Qp w' v T n cs:=by
 obtain⟨b,e,h⟩:=h;exact⟨b,e,by rw[hb.block b (Array.getElem?_eq_some_iff.1 h).1];exact h⟩
theorem Qp.aoH {w:World} {v v1 v2:Value} {T:TypeId} {n m:Nat} {f g:Nat->Int} (h:Qp w v T 2 [v1,v2].toArray) (h1:Rd .u8 w v1 n f) (h2:Rd .u8 w v2 m g):
  uq w v 2 (kM 1 (fun _=>n) (fun _=>m)) (nL 1 (fun _=>f) (fun _=>g)):=by
 obtain⟨b,rfl,h⟩:=h;refine⟨_,_,rfl,bH _,by decide,fun _=>⟨b,0,rfl,(Array.getElem?_eq_some_iff.1 h).1,fun j hj=>?_⟩⟩;rw[qY,cell_of_row _ _ _ _ T (0,0) h];rcases(by omega:j=0\/j=1) with rfl | rfl
 ·exact⟨v1,rfl,h1⟩
 ·exact⟨v2,rfl,h2⟩
end Go.bI
namespace Go.Proofs.YtpcjekgfnfjbpaaGreat
open Go.RowKit Go.bI Go.ChangeShapes
attribute [local go_sem ↓] Go.wp_at_zero Go.wp_at_succ
def aad:ByteArray:=⟨#[98,111,120]⟩
def UO:Nat->Nat:=kM 1 (fun _=>32) (fun _=>32)
def aaf (F P:Int):Nat->Nat->Int:=nL 1 (fun _=>dg 256 F) (fun _=>dg 256 P)
def ug (X F P:Int):Nat->Int:=Gz 32 (dg 256 X) (vg aad.size UO 2) (CO aad.size (pX aad) UO (aaf F P) 2)
theorem aae (X F P:Int):∀i,i<32->0<=ug X F P i/\ug X F P i<256:=fun i _=>BQ _ _ _ _ i
theorem adr:∀j,j<2->UO j<=4000:=by intro j hj;rcases(by omega:j=0\/j=1) with rfl | rfl<;> decide
theorem ahN (F P:Int):∀j,j<2->∀i,i<UO j->0<=aaf F P j i/\aaf F P j i<256:=by
 intro j hj i _;rcases(by omega:j=0\/j=1) with rfl | rfl
 ·exact bR aM _ _
 ·exact bR aM _ _
theorem ZW (X F P:Int) (v t:Value) (w:World) (hv:Rd .u8 w v 32 (dg 256 X)) (ht:uq w t 2 UO (aaf F P)):
  Calls Tryz.prog 120 #[v,.string aad,t] w fun e w'=>e=.returned (.tuple #[.agg (arr .u8 32 (ug X F P)),.int .i64 0])/\Below w.heap.size w w':=
 Mq v 32 (dg 256 X) aad t 2 UO (aaf F P) w hv aM aM (fun i _=>bR aM _ _) aM ht aM adr (ahN F P)
theorem UM {a:Act} (w:World):(Instr.build 22 ((#[] :Array (Nat × Operand)).map fun(i,x)=>(i,a.eval x))).run Tryz.prog w=.ok (.agg (arr .u8 32 (fun _=>0))) w:=Go.run_build w _ _ _ aQ
theorem Gd {a:Act} (w:World):(Instr.build 35 ((#[] :Array (Nat × Operand)).map fun(i,x)=>(i,a.eval x))).run Tryz.prog w=.ok (.agg (arr .u8 12 (fun _=>0))) w:=Go.run_build w _ _ _ aQ
def vQ (X F P:Int):Nat->Int:=if X=0 then fun _=>0 else ug X F P
theorem Gc (S O F P:Int) (w:World):Calls Tryz.prog 118 #[.agg (arr .u8 32 (dg 256 S)),.agg (arr .u8 32 (dg 256 O)),.agg (arr .u8 32 (dg 256 F)),.agg (arr .u8 32 (dg 256 P))] w fun e w'=>
  e=.returned (.tuple #[.agg (arr .u8 32 (vQ (mulN S O) F P)),.int .i64 (qP (mulN S O))])/\Below w.heap.size w w':=by
 have HSH:=ay (fun w=>Ij S O w);have HP0:=ay (fun(a:Act) w=>UM (a:=a) w);have HDR:=ay (fun w v t=>ZW (mulN S O) F P v t w);have HE:Hid (qP (mulN S O)=if mulN S O=0 then 21 else 0):=rfl;have HK:Hid (vQ (mulN S O) F P=if mulN S O=0 then (fun _=>0) else ug (mulN S O) F P):=rfl;obtain⟨X,hX⟩:∃X,X=mulN S O:=⟨_,rfl⟩
 rw[<-hX] at HSH HDR HE HK ⊢;obtain⟨er,her⟩:∃er,er=qP X:=⟨_,rfl⟩
 rw[<-her] at HSH HE ⊢;obtain⟨KK,hKK⟩:∃K,K=ug X F P:=⟨_,rfl⟩
 rw[<-hKK] at HDR HK;obtain⟨KR,hKR⟩:∃K,K=vQ X F P:=⟨_,rfl⟩
 rw[<-hKR] at HK ⊢;clear hX her hKK hKR
 go_enter Tryz.func118,Tryz.ntmps118
 go_upto_region 1 with(fail)
 refine aJ (fun w1=>aK .u8 w1 w.heap.size 32 (dg 256 S)/\aK .u8 w1 (w.heap.size+1) 32 (dg 256 O)/\aK .u8 w1 (w.heap.size+2) 32 (dg 256 F)/\aK .u8 w1 (w.heap.size+3) 32 (dg 256 P)/\aK .u8 w1 (w.heap.size+4) 32 (fun _=>0)/\Below w.heap.size w w1)
  ⟨.alloc (.alloc (.alloc (.alloc (cB rfl rfl) _) _) _) _,.alloc (.alloc (.alloc (cB dO rfl) _) _) _,.alloc (.alloc (cB dO rfl) _) _,.alloc (cB dO rfl) _,cB dO (by rfl),(((((bT _ _).alloc (bH _) _).alloc dO _).alloc dO _).alloc dO _).alloc dO _⟩ ?_
 rintro w1 ⟨h4,h5,h6,h7,h8,aD⟩;go_wp2_with (first | (refine aZ rfl 22 _ rfl .u8 w.heap.size 32 (dg 256 S) 5 iL fZ rfl h4 ?_) | (refine aZ rfl 22 _ rfl .u8 (w.heap.size+1) 32 (dg 256 O) 5 iL fZ rfl h5 ?_));refine(HSH.out _).mono ?_;rintro e w2 ⟨rfl,hb⟩;replace h6:=h6.kept hb;replace h7:=h7.kept hb;replace h8:=h8.kept hb;replace aD:=aD.trans (hb.mono aD.size);have hl8:=h8.lt;clear hb h4 h5;go_upto_region 2 with(refine aL rfl 22 _ _ rfl .u8 w2.heap.size 32 (fun _=>0) (dg 256 X) fZ rfl rfl (cB rfl (by rfl)) ?_);refine aJ (fun w3=>aK .u8 w3 w2.heap.size 32 (dg 256 X)/\Below w2.heap.size w2 w3) ⟨(cB rfl (by rfl):aK .u8 _ _ 32 (fun _=>0)).setRow _ _,aB ((bT _ _).alloc (bH _) _) (bH _) _⟩ ?_;rintro w3 ⟨h10,hb⟩;replace h6:=h6.kept hb;replace h7:=h7.kept hb;replace h8:=h8.kept hb;replace aD:=aD.trans (hb.mono aD.size);obtain⟨x10,e10⟩:∃x,x=w2.heap.size:=⟨_,rfl⟩
 rw[<-e10] at h10 hl8 ⊢;clear e10 hb
 try simp only[Act.put,fB,fD,fF]
 by_cases hX:X=0
 case pos=>
  obtain rfl:er=21:=by rw[HE.out,if_pos hX]
  obtain rfl:KR=fun _=>0:=by rw[HK.out,if_pos hX]
  clear hX;go_wp2_with (first | (refine fC rfl (fK rfl (HP0.out _ _)) ?_) | (refine aL rfl 22 _ _ rfl .u8 (w.heap.size+4) 32 (fun _=>0) (fun _=>0) fZ rfl rfl h8 ?_));exact bodyPost_ret (gZ rfl _ _ .u8 (w.heap.size+4) 32 _ 5 rfl (h8.setRow 32 (fun _=>0)) iL fZ) rfl ⟨rfl,aB aD aH _⟩
 case neg=>
  obtain rfl:er=0:=by rw[HE.out,if_neg hX]
  obtain rfl:KR=KK:=by rw[HK.out,if_neg hX]
  clear hX HK HE;go_upto_region 4 with(fail)
  refine pK (n:=29) 7 aM aQ aQ aQ aQ rfl
   (fun ii vv ww=>(match ii with | 0=>vv=.slice (some ⟨x10,0,none⟩) 32 32 | 1=>vv=.slice (some ⟨(w.heap.size+2),0,none⟩) 32 32 | 2=>vv=.slice (some ⟨(w.heap.size+3),0,none⟩) 32 32 | 4=>vv=.tuple #[.agg (arr .u8 32 (KR)),.int .i64 (0)] | 5=>vv=.agg (arr .u8 32 (KR)) | 6=>vv=.int .i64 (0) | _=>True)/\(ii=3->Qp ww vv 23 2 [.slice (some ⟨w.heap.size+2,0,none⟩) 32 32,.slice (some ⟨w.heap.size+3,0,none⟩) 32 32].toArray))
   (fun i v w w' h hE=>⟨h.1,fun e=>Qp.below (h.2 e) hE⟩) ?_ ?_
  ·refine dG ?_;refine⟨?_,?_,?_,?_,?_,?_,?_,(aP),(aP),trivial⟩
   ·intro _ a w2 hB hF hd;exact aN <| aW (gD rfl (hF.same 10 rfl) iL aQ) ⟨rfl,aP⟩
   ·intro _ a w2 hB hF hd;exact aN <| aW (gD rfl (hF.same 6 rfl) iL aQ) ⟨rfl,aP⟩
   ·intro _ a w2 hB hF hd;exact aN <| aW (gD rfl (hF.same 7 rfl) iL aQ) ⟨rfl,aP⟩
   ·intro _ a w2 hB hF hd;exact aN <| oC 55 23 2 _ [.slice (some ⟨(w.heap.size+2),0,none⟩) 32 32,.slice (some ⟨(w.heap.size+3),0,none⟩) 32 32] rfl Tryz.underlying55 aQ aQ rfl aM aM (by intro v hv;simp only[List.mem_cons,List.not_mem_nil,or_false] at hv;rcases hv with rfl | rfl<;> rfl) (by simp only[vT,List.map_cons,List.map_nil,show a.eval (Operand.tmp 23)=.slice (some ⟨(w.heap.size+2),0,none⟩) 32 32 from((hd 1 _ rfl (aj rfl)).1),show a.eval (Operand.tmp 24)=.slice (some ⟨(w.heap.size+3),0,none⟩) 32 32 from((hd 2 _ rfl (aj rfl)).1)];rfl) aR ⟨trivial,fun _=>((⟨_,rfl,heap_alloc_new _ _⟩))⟩
   ·intro _ a w2 hB hF hd;refine aN <| aI _ _ _ rfl Tryz.call120 _ (vR ((hd 0 _ rfl (aj rfl)).1) rfl rfl) aR ((HDR.out w2 _ _ ((h10.kept hB).rd aM) (((hd 3 _ rfl (aj rfl)).2 rfl).aoH ((h6.kept hB).rd aM) ((h7.kept hB).rd aM))).mono ?_);rintro e w3 ⟨rfl,hb⟩;exact⟨_,rfl,⟨rfl,aP⟩,hb⟩
   ·intro _ a w2 hB hF hd;exact aN <| aW (bU rfl ((hd 4 _ rfl (aj rfl)).1) rfl) ⟨rfl,aP⟩
   ·intro _ a w2 hB hF hd;exact aN <| aW (bU rfl ((hd 4 _ rfl (aj rfl)).1) rfl) ⟨rfl,aP⟩
  ·intro a w4 hB hF hS;obtain⟨x25,hx25⟩:∃x,x=a.tmps.getD 25 undef:=⟨_,rfl⟩
   have ha:=aO rfl rfl hF [_,_,_,x25,_,_,_] rfl ⟨(hS 0 _ rfl aM).1,(hS 1 _ rfl aM).1,(hS 2 _ rfl aM).1,hx25.symm,(hS 4 _ rfl aM).1,(hS 5 _ rfl aM).1,(hS 6 _ rfl aM).1,trivial⟩;simp only[puts,List.take_succ_cons,List.take_zero,Act.put,fB,fD,fF] at ha;subst ha;change tl _ _ _ (_::_:: []) _ _;clear hx25;clear hS hF;replace h8:=h8.kept hB;replace aD:=aD.trans (hB.mono aD.size);refine rz rfl (bG 22 _ _ rfl .u8 (w.heap.size+4) 32 (fun _=>0) KR fZ rfl rfl h8 ?_);refine AZ rfl _ (.inr rfl) (BP ?_);have h8':=h8.setRow 32 KR;have hb':=aB aD (show w.heap.size<=w.heap.size+4 by omega) (arr .u8 32 KR);clear h8 aD hB;simp only[Act.put,Act.eval,fB,fD,fF];go_wp2;exact bodyPost_ret (gZ rfl _ _ .u8 (w.heap.size+4) 32 _ 5 rfl h8' iL fZ) rfl ⟨rfl,hb'⟩
def CG:Nat->Int:=fun _=>0
def nO (S P:Int) (n:Nat) (f:Nat->Int):Nat->Int:=nN 32 (dg 256 (mulN S 9)) (lC (ug (mulN S P) (mulN S 9) P) CG 0 CG n f)
def WrR (S P:Int) (n:Nat) (f:Nat->Int) (w:World) (u:Value) (er:Int):Prop:=(mulN S P=0->u=.slice none 0 0/\er=21)/\(mulN S P≠0->er=0/\Rd .u8 w u (32+(n+16)) (nO S P n f))
theorem Qa (S P:Int) (v:Value) (n:Nat) (f:Nat->Int) (w:World) (hv:Rd .u8 w v n f) (hn:n<=300):
  Calls Tryz.prog 65 #[.agg (arr .u8 32 (dg 256 S)),.agg (arr .u8 32 (dg 256 P)),v] w fun e w'=> ∃u er,e=.returned (.tuple #[u,.int .i64 er])/\WrR S P n f w' u er/\Below w.heap.size w w':=by
 have HPU:=ay (fun w=>rJ S w);have Vu:=ay (fun w=>Gc S P (mulN S 9) P w)
 have HSE:Hid (∀w u,Rd .u8 w u n f->Calls Tryz.prog 70 #[.agg (arr .u8 32 (ug (mulN S P) (mulN S 9) P)),.agg (arr .u8 12 (fun _=>0)),.slice none 0 0,u] w fun e w'=> ∃v,e=.returned (.tuple #[v,.int .i64 0])/\Go.bI.Own .u8 5 w.heap.size w' v (n+16) (lC (ug (mulN S P) (mulN S 9) P) CG 0 CG n f)/\Below w.heap.size w w'):=fun w u h=>
  Vg _ CG (aae _ _ _) (fun i _=>by unfold CG;decide) _ u 0 n CG f w (Rd.nil _ _ _) h (fun i hi=>absurd hi aH) aM aH
 have HB0:=ay (fun(a:Act) w=>Gd (a:=a) w);have HWF:Hid (nO S P n f=nN 32 (dg 256 (mulN S 9)) (lC (ug (mulN S P) (mulN S 9) P) CG 0 CG n f)):=rfl;have HT0:=ay hv;have Qs:=ay hn;have Vn:Hid (∀w u er,((mulN S P=0->u=.slice none 0 0/\er=21)/\(mulN S P≠0->er=0/\Rd .u8 w u (32+(n+16)) (nO S P n f)))->WrR S P n f w u er):=fun w u er h=>h;obtain⟨ta,tc,ev,_⟩:=id hv;subst ev;by_cases hX:mulN S P=0
 case pos=>
  have hk1:vQ (mulN S P) (mulN S 9) P=fun _=>0:=by unfold vQ;rw[if_pos hX]
  have hk2:qP (mulN S P)=21:=by unfold qP;rw[if_pos hX]
  rw[hk1,hk2] at Vu;have HR:=ay (fun w=>Vn.out w (.slice none 0 0) 21 ⟨fun _=>⟨rfl,rfl⟩,fun h=>absurd hX h⟩);obtain⟨FI,hFI⟩:∃x,x=mulN S 9:=⟨_,rfl⟩
  rw[<-hFI] at HPU Vu;clear hX hk1 hk2 HSE hFI hv hn HWF Vn
  go_enter Tryz.func65,Tryz.ntmps65
  go_upto_region 1 with(fail);refine aJ (fun w1=>aK .u8 w1 w.heap.size 32 (dg 256 S)/\aK .u8 w1 (w.heap.size+1) 32 (dg 256 P)/\Below w.heap.size w w1) ⟨.alloc (cB rfl rfl) _,cB dO rfl,((bT _ _).alloc (bH _) _).alloc dO _⟩ ?_;rintro w1 ⟨h3,h4,aD⟩;go_wp2_with (refine aZ rfl 22 _ rfl .u8 w.heap.size 32 (dg 256 S) 5 iL fZ rfl h3 ?_);refine(HPU.out _).mono ?_;rintro e w2 ⟨rfl,hb⟩;replace h3:=h3.kept hb;replace h4:=h4.kept hb;replace aD:=aD.trans (hb.mono aD.size);have hl4:=h4.lt;clear hb;go_upto_region 2 with(refine aL rfl 22 _ _ rfl .u8 w2.heap.size 32 (fun _=>0) (dg 256 FI) fZ rfl rfl (cB rfl (by rfl)) ?_);refine aJ (fun w3=>aK .u8 w3 w2.heap.size 32 (dg 256 FI)/\Below w2.heap.size w2 w3) ⟨(cB rfl (by rfl):aK .u8 _ _ 32 (fun _=>0)).setRow _ _,aB ((bT _ _).alloc (bH _) _) (bH _) _⟩ ?_;rintro w3 ⟨h8,hb⟩;replace h3:=h3.kept hb;replace h4:=h4.kept hb;replace aD:=aD.trans (hb.mono aD.size);obtain⟨x8,e8⟩:∃x,x=w2.heap.size:=⟨_,rfl⟩
  rw[<-e8] at h8 hl4 ⊢;clear e8 hb
  try simp only[Act.put,fB,fD,fF]
  go_wp2_with (first
   | (refine aZ rfl 22 _ rfl .u8 w.heap.size 32 (dg 256 S) 5 iL fZ rfl h3 ?_)
   | (refine aZ rfl 22 _ rfl .u8 (w.heap.size+1) 32 (dg 256 P) 5 iL fZ rfl h4 ?_)
   | (refine aZ rfl 22 _ rfl .u8 x8 32 (dg 256 FI) 5 iL fZ rfl h8 ?_))
  refine(Vu.out _).mono ?_;rintro e w4 ⟨rfl,hb⟩;replace aD:=aD.trans (hb.mono aD.size);clear hb h3 h4 h8;go_upto_region 3 with(refine aL rfl 22 _ _ rfl .u8 w4.heap.size 32 (fun _=>0) (fun _=>0) fZ rfl rfl (cB rfl (by rfl)) ?_);refine aJ (fun w5=>Below w.heap.size w w5) (aB (aD.alloc aD.size _) aD.size _) ?_;clear aD;rintro w5 aD
  try simp only[Act.put,fB,fD,fF]
  go_wp2;go_ret2;exact⟨_,_,rfl,HR.out _,aD⟩
 case neg=>
  have hk1:vQ (mulN S P) (mulN S 9) P=ug (mulN S P) (mulN S 9) P:=by unfold vQ;rw[if_neg hX]
  have hk2:qP (mulN S P)=0:=by unfold qP;rw[if_neg hX]
  rw[hk1,hk2] at Vu;have HR:=ay (fun w u h=>Vn.out w u 0 ⟨fun h=>absurd h hX,fun _=>⟨rfl,h⟩⟩);obtain⟨K,hK⟩:∃x,x=ug (mulN S P) (mulN S 9) P:=⟨_,rfl⟩
  rw[<-hK] at Vu HSE HWF;obtain⟨FI,hFI⟩:∃x,x=mulN S 9:=⟨_,rfl⟩
  rw[<-hFI] at HPU Vu HWF;obtain⟨SF,hSF⟩:∃x,x=lC K CG 0 CG n f:=⟨_,rfl⟩
  rw[<-hSF] at HSE HWF;obtain⟨WF,hWF⟩:∃x,x=nO S P n f:=⟨_,rfl⟩
  rw[<-hWF] at HR HWF;clear hX hk1 hk2 hFI hK hSF hWF hv Vn;have h28:¬ (1048528:Int)<(n:Int):=by omega
  clear hn
  go_enter Tryz.func65,Tryz.ntmps65
  go_upto_region 1 with(fail);refine aJ (fun w1=>aK .u8 w1 w.heap.size 32 (dg 256 S)/\aK .u8 w1 (w.heap.size+1) 32 (dg 256 P)/\Below w.heap.size w w1) ⟨.alloc (cB rfl rfl) _,cB dO rfl,((bT _ _).alloc (bH _) _).alloc dO _⟩ ?_;rintro w1 ⟨h3,h4,aD⟩;go_wp2_with (refine aZ rfl 22 _ rfl .u8 w.heap.size 32 (dg 256 S) 5 iL fZ rfl h3 ?_);refine(HPU.out _).mono ?_;rintro e w2 ⟨rfl,hb⟩;replace h3:=h3.kept hb;replace h4:=h4.kept hb;replace aD:=aD.trans (hb.mono aD.size);have hl4:=h4.lt;clear hb;go_upto_region 2 with(refine aL rfl 22 _ _ rfl .u8 w2.heap.size 32 (fun _=>0) (dg 256 FI) fZ rfl rfl (cB rfl (by rfl)) ?_);refine aJ (fun w3=>aK .u8 w3 w2.heap.size 32 (dg 256 FI)/\Below w2.heap.size w2 w3) ⟨(cB rfl (by rfl):aK .u8 _ _ 32 (fun _=>0)).setRow _ _,aB ((bT _ _).alloc (bH _) _) (bH _) _⟩ ?_;rintro w3 ⟨h8,hb⟩;replace h3:=h3.kept hb;replace h4:=h4.kept hb;replace aD:=aD.trans (hb.mono aD.size);obtain⟨x8,e8⟩:∃x,x=w2.heap.size:=⟨_,rfl⟩
  rw[<-e8] at h8 hl4 ⊢;clear e8 hb
  try simp only[Act.put,fB,fD,fF]
  go_wp2_with (first
   | (refine aZ rfl 22 _ rfl .u8 w.heap.size 32 (dg 256 S) 5 iL fZ rfl h3 ?_)
   | (refine aZ rfl 22 _ rfl .u8 (w.heap.size+1) 32 (dg 256 P) 5 iL fZ rfl h4 ?_)
   | (refine aZ rfl 22 _ rfl .u8 x8 32 (dg 256 FI) 5 iL fZ rfl h8 ?_))
  refine(Vu.out _).mono ?_;rintro e w4 ⟨rfl,hb⟩;replace h8:=h8.kept hb;replace aD:=aD.trans (hb.mono aD.size);have hl8:=h8.lt;clear hb h3 h4;go_upto_region 3 with(refine aL rfl 22 _ _ rfl .u8 w4.heap.size 32 (fun _=>0) K fZ rfl rfl (cB rfl (by rfl)) ?_);refine aJ (fun w5=>aK .u8 w5 w4.heap.size 32 K/\Below w4.heap.size w4 w5) ⟨(cB rfl (by rfl):aK .u8 _ _ 32 (fun _=>0)).setRow _ _,aB ((bT _ _).alloc (bH _) _) (bH _) _⟩ ?_;rintro w5 ⟨h9,hb⟩;replace h8:=h8.kept hb;replace aD:=aD.trans (hb.mono aD.size);obtain⟨x9,e9⟩:∃x,x=w4.heap.size:=⟨_,rfl⟩
  rw[<-e9] at h9 hl8 ⊢;clear e9 hb
  try simp only[Act.put,fB,fD,fF]
  go_wp2_with (first
   | (refine aZ rfl 22 _ rfl .u8 x9 32 K 5 iL fZ rfl h9 ?_)
   | (refine fC rfl (fK rfl (HB0.out _ _)) ?_))
  refine(HSE.out _ _ (HT0.out.below aD)).mono ?_;rintro e w6 ⟨u,rfl,hu,hb⟩;have HU:=ay hu.rd;replace h8:=h8.kept hb;replace aD:=aD.trans (hb.mono aD.size);have hlo:∀i,i<32->WF i=dg 256 FI i:=fun i hi=>by rw[HWF.out];unfold nN;rw[if_pos hi]
  have hhi:∀i,i<n+16->WF (32+i)=SF i:=fun i _=>by rw[HWF.out];unfold nN;rw[if_neg aH,show 32+i - 32=i by omega]
  have HC8:Hid (∀i,i<32->w6.cell? ⟨x8,0+i,none⟩=some (.int .u8 (WF i))):=fun i hi=>by rw[hlo i hi,qY];exact h8.cell i hi
  have HHI:=ay hhi;have hnn:=Qs.out;clear hb hu h9 hl8 hlo hhi;go_wp2_with (at_builtin;refine MU rfl _ _ 23 rfl 5 .u8 1 mo yL x8 0 32 WF HC8.out rfl u (n+16) SF HU.out rfl aH HHI.out aH aH ?_;intro v' w7 hr YN);have HRR:=ay (HR.out _ _ hr);have Ru:=aD.trans (YN.mono aD.size);clear hr YN h8 aD;go_wp2;go_ret2;exact⟨_,_,rfl,HRR.out,Ru⟩
def wW (f2:Nat->Int):Int:=sm 256 f2 32
def rY (T:Int) (f2:Nat->Int):Int:=mulN T (wW f2)
def NA (T:Int) (f2:Nat->Int):Nat->Int:=ug (rY T f2) (wW f2) (mulN T 9)
def vE (T:Int) (n:Nat) (f2:Nat->Int):Bool:=tC (NA T f2) CG 0 CG n (fun i=>f2 (32+i))
def NC (T:Int) (f2:Nat->Int):Nat->Int:=lV (NA T f2) CG 1 (fun i=>f2 (32+i))
def UnR (T:Int) (n:Nat) (f2:Nat->Int) (w:World) (u:Value) (er:Int):Prop:=(rY T f2=0->u=.slice none 0 0/\er=21)/\(rY T f2≠0->(vE T n f2=false->u=.slice none 0 0/\er=20)/\(vE T n f2=true->er=0/\Rd .u8 w u n (NC T f2)))
theorem Dt (T:Int) (v:Value) (n:Nat) (f:Nat->Int) (w:World) (hv:Rd .u8 w v n f) (hn:n<48):
  Calls Tryz.prog 75 #[.agg (arr .u8 32 (dg 256 T)),v] w fun e w'=>e=.returned (.tuple #[.slice none 0 0,.int .i64 10])/\Below w.heap.size w w':=by
 obtain⟨ta,tc,ev,_⟩:=id hv;subst ev;have h48:(n:Int)<48:=by omega
 clear hv hn
 go_enter Tryz.func75,Tryz.ntmps75
 go_wp2;go_ret2;exact⟨rfl,(bT _ _).alloc (bH _) _⟩
theorem Jb (T:Int) (v:Value) (n N:Nat) (hN:N=n+48) (f:Nat->Int) (w:World) (hv:Rd .u8 w v N f) (hn:n<=400) (hf:∀i,i<N->0<=f i/\f i<256):
  Calls Tryz.prog 75 #[.agg (arr .u8 32 (dg 256 T)),v] w fun e w'=> ∃u er,e=.returned (.tuple #[u,.int .i64 er])/\UnR T n f w' u er/\Below w.heap.size w w':=by
 have HPU:=ay (fun w=>rJ T w);have Vu:Hid (∀w,Calls Tryz.prog 118 #[.agg (arr .u8 32 (dg 256 T)),.agg (arr .u8 32 (dg 256 (wW f))),.agg (arr .u8 32 (dg 256 (wW f))),.agg (arr .u8 32 (dg 256 (mulN T 9)))] w fun e w'=>e=.returned (.tuple #[.agg (arr .u8 32 (vQ (rY T f) (wW f) (mulN T 9))),.int .i64 (qP (rY T f))])/\Below w.heap.size w w'):=fun w=>Gc T (wW f) (wW f) (mulN T 9) w
 have HOP:Hid (∀w u,Rd .u8 w u (n+16) (fun i=>f (32+i))->Calls Tryz.prog 78 #[.agg (arr .u8 32 (NA T f)),.agg (arr .u8 12 (fun _=>0)),.slice none 0 0,u] w fun e w'=> ∃v,e=.returned v/\OpR (vE T n f) w' v n (NC T f)/\Below w.heap.size w w'):=fun w u h=>
  Vh _ CG (aae _ _ _) (fun i _=>by unfold CG;decide) _ u 0 n CG _ w (Rd.nil _ _ _) h (fun i hi=>absurd hi aH) (fun i hi=>hf (32+i) aH) aM aH
 have HB0:=ay (fun(a:Act) w=>Gd (a:=a) w);have HFQ:Hid (arr .u8 32 f=arr .u8 32 (dg 256 (wW f))):=iQ fun i hi=>(Af aM (fun i hi=>hf i aH) i hi).symm;have Vn:Hid (∀w u er,((rY T f=0->u=.slice none 0 0/\er=21)/\(rY T f≠0->(vE T n f=false->u=.slice none 0 0/\er=20)/\(vE T n f=true->er=0/\Rd .u8 w u n (NC T f))))->UnR T n f w u er):=fun w u er h=>h;have HV0:=ay hv;obtain⟨ta,tc,ev,hc1,hc2,_,_⟩:=id hv;subst ev;have G1:=ay (Rd.head (P:=Tryz.prog) mo yL ta N tc 32 aH hc1);obtain⟨a2,g1,g2,g3⟩:=Rd.cut (P:=Tryz.prog) mo yL ta N tc 32 N aH (bH _) hc1;have G2:=ay g2;have HRS:Hid (∀w,Rd .u8 w (.slice ta N tc) N f->Rd .u8 w (.slice a2 (N - 32) (tc - 32)) (n+16) (fun i=>f (32+i))):=fun w h=>by have h2:=(g3 w f h).2;rwa [show N - 32=n+16 by omega] at h2 ⊢
 obtain⟨b1,o1,q1,l1,c1⟩:=(G1.out.2 _ _ hv).ahp aM;subst q1;have Bw:=ay c1;have h48:¬ (N:Int)<48:=by omega
 have hbig:¬ (1048576:Int)<(N:Int):=by omega
 have HKE:Hid (vQ (rY T f) (wW f) (mulN T 9)=if rY T f=0 then (fun _=>0) else NA T f):=rfl;have Vv:Hid (qP (rY T f)=if rY T f=0 then 21 else 0):=rfl;obtain⟨KR,hKR⟩:∃x,x=vQ (rY T f) (wW f) (mulN T 9):=⟨_,rfl⟩
 obtain⟨er,her⟩:∃x,x=qP (rY T f):=⟨_,rfl⟩
 rw[<-hKR] at Vu HKE;rw[<-her] at Vu Vv;obtain⟨ok,hok⟩:∃x,x=vE T n f:=⟨_,rfl⟩
 rw[<-hok] at HOP Vn;obtain⟨H,hH⟩:∃x,x=NC T f:=⟨_,rfl⟩
 rw[<-hH] at HOP Vn;obtain⟨K,hK⟩:∃x,x=NA T f:=⟨_,rfl⟩
 rw[<-hK] at HOP HKE;obtain⟨X,hX⟩:∃x,x=rY T f:=⟨_,rfl⟩
 rw[<-hX] at HKE Vv Vn;obtain⟨FI,hFI⟩:∃x,x=wW f:=⟨_,rfl⟩
 rw[<-hFI] at Vu HFQ;obtain⟨PT,hPT⟩:∃x,x=mulN T 9:=⟨_,rfl⟩
 rw[<-hPT] at HPU Vu;clear hN hKR her hok hH hK hX hFI hPT g1 g2 g3 c1 hv hf hc1 hc2 hn
 go_enter Tryz.func75,Tryz.ntmps75
 go_upto_region 1 with(fail);refine aJ (fun w1=>aK .u8 w1 w.heap.size 32 (dg 256 T)/\Below w.heap.size w w1) ⟨cB rfl rfl,(bT _ _).alloc (bH _) _⟩ ?_;rintro w1 ⟨h2,aD⟩;have l1':b1<w1.heap.size:=qZ l1 aD.size;have amK:Hid (∀i,i<32->w1.cell? ⟨b1,o1+i,none⟩=some (.int .u8 (f i))):=fun i hi=>(aD.cell (p:=⟨b1,o1+i,none⟩) l1).trans (Bw.out i hi);clear Bw l1;go_upto_region 5 with(fail)
 refine bN (n:=40) aQ aQ aQ rfl
  (ku [(5,4)]) (gH [(5,4)]) (fun _=>arr .u8 32 (fun _=>0)) (fun _=>(arr .u8 32 (dg 256 FI))) (fun _=>22) (fun _=>6)
  (fun ii vv _=>(match ii with | 0=>vv=.slice (some ⟨b1,o1,none⟩) N tc | 1=>vv=.slice (some ⟨b1,o1,none⟩) 32 tc | 2=>vv=.pointer (some ⟨b1,o1,none⟩) | 3=>vv=.agg (arr .u8 32 (dg 256 FI)) | _=>True)) (fun _ _=>True) (fun _ _ _=>trivial) (fun _ _ _ _ _ _ _=>trivial) (fun _ _ _ _ h _=>h)
  (iJ rfl) (fT rfl) ?_ ?_ ?_ ?_
 ·refine dG ?_;refine⟨?_,?_,?_,?_,(fun h=>by cases h),(fun _ h=>by cases h),trivial⟩
  ·intro _ _ a w2 hB hF hd;exact aN <| aG _ (.inl rfl) aR (hF.same 1 rfl)
  ·intro _ _ a w2 hB hF hd;exact aN <| aW (dY rfl (hd 0 _ rfl rfl rfl (aj rfl)) (by simp only[Option.map_some,Option.map_none];exact G1.out.1 _)) rfl
  ·intro _ _ a w2 hB hF hd;exact aN <| aW (lD rfl (hd 1 _ rfl rfl rfl (aj rfl)) iL aM) rfl
  ·intro _ _ a w2 hB hF hd;exact aN <| aW (kJ rfl (hd 2 _ rfl rfl rfl (aj rfl)) iL fZ (fun i hi=>(hB.cell (p:=⟨b1,o1+i,none⟩) l1').trans (amK.out i hi))) (congrArg Value.agg HFQ.out)
 ·refine dG ?_;refine⟨(fun h=>by cases h),(fun h=>by cases h),(fun h=>by cases h),(fun h=>by cases h),?_,(fun h=>by cases h),trivial⟩
  ·exact fun _=>⟨rfl,rfl,fun a w2 K h=>bD rfl rfl Tryz.zeroValue22 aR h⟩
 ·refine dG ?_;refine⟨(fun _ h=>by cases h),(fun _ h=>by cases h),(fun _ h=>by cases h),(fun _ h=>by cases h),(fun _ h=>by cases h),?_,trivial⟩
  ·intro p hp;obtain rfl:4=p:=gJ hp;exact⟨rfl,rfl,⟨_,rfl⟩,aj rfl,fun a w2 b K hB hF hd hx hb h=>bQ rfl rfl fZ hx (hd 3 _ rfl rfl rfl (aj rfl)) hb h⟩
 ·intro a w2 blk hB hF hS hv hfin dS;obtain⟨v4,Wt,v4u⟩:=hv 4 _ rfl rfl;have ha:=aO rfl rfl hF [_,_,_,_,_,undef] rfl ⟨hS 0 _ rfl rfl rfl,hS 1 _ rfl rfl rfl,hS 2 _ rfl rfl rfl,hS 3 _ rfl rfl rfl,v4,trivial,trivial⟩;have f4:=hfin 5 _ 4 rfl rfl;simp only[puts,Act.put,fB,fD,fF] at ha;subst ha;have V4:aK .u8 w2 (blk 4) 32 (dg 256 FI):=⟨_,f4⟩
  clear hS hv hfin dS hF v4 f4;replace h2:=h2.kept hB;replace aD:=aD.trans (hB.mono aD.size);obtain⟨x6,e6⟩:∃x,x=blk 4:=⟨_,rfl⟩
  rw[<-e6] at V4 ⊢;have h6:=V4;clear e6 hB V4 Wt v4u l1' amK;go_upto_region 6 with(fail)
  refine bN (n:=40) aQ aQ aQ rfl
   (ku [(10,9)]) (gH [(10,9)]) (fun _=>arr .u8 32 (fun _=>0)) (fun _=>(arr .u8 32 (KR))) (fun _=>22) (fun _=>7)
   (fun ii vv _=>(match ii with | 0 | 3=>vv=.agg (arr .u8 32 (dg 256 T)) | 1 | 2=>vv=.agg (arr .u8 32 (dg 256 FI)) | 4=>vv=.agg (arr .u8 32 (dg 256 PT)) | 5 | 6=>vv=.tuple #[.agg (arr .u8 32 (KR)),.int .i64 (er)] | 7=>vv=.agg (arr .u8 32 (KR)) | 8 | 11=>vv=.int .i64 (er) | _=>True)) (fun _ _=>True) (fun _ _ _=>trivial) (fun _ _ _ _ _ _ _=>trivial) (fun _ _ _ _ h _=>h)
   (iJ rfl) (fT rfl) ?_ ?_ ?_ ?_
  ·refine dG ?_;refine⟨?_,?_,?_,?_,?_,?_,?_,?_,?_,(fun h=>by cases h),(fun _ h=>by cases h),?_,trivial⟩
   ·intro _ _ a w2 hB hF hd;exact aN <| aW (aF rfl iL rfl fZ (hF.same 2 rfl) (h2.below hB h2.lt)) rfl
   ·intro _ _ a w2 hB hF hd;exact aN <| aW (aF rfl iL rfl fZ (hF.same 6 rfl) (h6.below hB h6.lt)) rfl
   ·intro _ _ a w2 hB hF hd;exact aN <| aW (aF rfl iL rfl fZ (hF.same 6 rfl) (h6.below hB h6.lt)) rfl
   ·intro _ _ a w2 hB hF hd;exact aN <| aW (aF rfl iL rfl fZ (hF.same 2 rfl) (h2.below hB h2.lt)) rfl
   ·intro _ _ a w2 hB hF hd;refine aN <| aI _ _ _ rfl Tryz.call90 _ (args1 (hd 3 _ rfl rfl rfl (aj rfl))) aR ((HPU.out w2).mono ?_);rintro e w3 ⟨rfl,hb⟩;exact⟨_,rfl,rfl,hb⟩
   ·intro _ _ a w2 hB hF hd;refine aN <| aI _ _ _ rfl Tryz.call118 _ (yD (hd 0 _ rfl rfl rfl (aj rfl)) (hd 1 _ rfl rfl rfl (aj rfl)) (hd 2 _ rfl rfl rfl (aj rfl)) (hd 4 _ rfl rfl rfl (aj rfl))) aR ((Vu.out w2).mono ?_);rintro e w3 ⟨rfl,hb⟩;exact⟨_,rfl,rfl,hb⟩
   ·intro _ _ a w2 hB hF hd;exact aN <| aG _ (.inl rfl) aR (hd 5 _ rfl rfl rfl (aj rfl))
   ·intro _ _ a w2 hB hF hd;exact aN <| aW (bU rfl (hd 6 _ rfl rfl rfl (aj rfl)) rfl) rfl
   ·intro _ _ a w2 hB hF hd;exact aN <| aW (bU rfl (hd 6 _ rfl rfl rfl (aj rfl)) rfl) rfl
   ·intro _ _ a w2 hB hF hd;exact aN <| aG _ (.inr rfl) aR (hd 8 _ rfl rfl rfl (aj rfl))
  ·refine dG ?_;refine⟨(fun h=>by cases h),(fun h=>by cases h),(fun h=>by cases h),(fun h=>by cases h),(fun h=>by cases h),(fun h=>by cases h),(fun h=>by cases h),(fun h=>by cases h),(fun h=>by cases h),?_,(fun h=>by cases h),(fun h=>by cases h),trivial⟩
   ·exact fun _=>⟨rfl,rfl,fun a w2 K h=>bD rfl rfl Tryz.zeroValue22 aR h⟩
  ·refine dG ?_;refine⟨(fun _ h=>by cases h),(fun _ h=>by cases h),(fun _ h=>by cases h),(fun _ h=>by cases h),(fun _ h=>by cases h),(fun _ h=>by cases h),(fun _ h=>by cases h),(fun _ h=>by cases h),(fun _ h=>by cases h),(fun _ h=>by cases h),?_,(fun _ h=>by cases h),trivial⟩
   ·intro p hp;obtain rfl:9=p:=gJ hp;exact⟨rfl,rfl,⟨_,rfl⟩,aj rfl,fun a w2 b K hB hF hd hx hb h=>bQ rfl rfl fZ hx (hd 7 _ rfl rfl rfl (aj rfl)) hb h⟩
  ·intro a w3 blk hB hF hS hv hfin dS;obtain⟨v9,v9l,v9u⟩:=hv 9 _ rfl rfl;have ha:=aO rfl rfl hF [_,_,_,_,_,_,_,_,_,_,undef,_] rfl ⟨hS 0 _ rfl rfl rfl,hS 1 _ rfl rfl rfl,hS 2 _ rfl rfl rfl,hS 3 _ rfl rfl rfl,hS 4 _ rfl rfl rfl,hS 5 _ rfl rfl rfl,hS 6 _ rfl rfl rfl,hS 7 _ rfl rfl rfl,hS 8 _ rfl rfl rfl,v9,trivial,hS 11 _ rfl rfl rfl,trivial⟩;have f9:=hfin 10 _ 9 rfl rfl;simp only[puts,Act.put,fB,fD,fF] at ha;subst ha;have V9:aK .u8 w3 (blk 9) 32 (KR):=⟨_,f9⟩
   clear hS hv hfin dS hF v9 f9;replace aD:=aD.trans (hB.mono aD.size);obtain⟨x7,e7⟩:∃x,x=blk 9:=⟨_,rfl⟩
   rw[<-e7] at V9 ⊢;have h7:=V9;clear e7 hB V9 v9l v9u h2 h6;by_cases hX:X=0
   case pos=>
    obtain rfl:er=21:=by rw[Vv.out,if_pos hX]
    have HR:=ay (Vn.out w3 (.slice none 0 0) 21 ⟨fun _=>⟨rfl,rfl⟩,fun h=>absurd hX h⟩);clear hX HKE Vv Vn;go_wp2;go_ret2;exact⟨_,_,rfl,HR.out,aD⟩
   case neg=>
    obtain rfl:er=0:=by rw[Vv.out,if_neg hX]
    obtain rfl:KR=K:=by rw[HKE.out,if_neg hX]
    have HR1:Hid (ok=false->∀w,UnR T n f w (.slice none 0 0) 20):=fun ho w=>Vn.out w _ _ ⟨fun h=>absurd h hX,fun _=>⟨fun _=>⟨rfl,rfl⟩,fun h=>(by rw[ho] at h;cases h)⟩⟩;have HR2:Hid (ok=true->∀w u,Rd .u8 w u n H->UnR T n f w u 0):=fun ho w u hu=>Vn.out w _ _ ⟨fun h=>absurd h hX,fun _=>⟨fun h=>(by rw[ho] at h;cases h),fun _=>⟨rfl,hu⟩⟩⟩;clear hX HKE Vv Vn;go_upto_region 9 with(fail);cases ok
    case false=>
     have Ni:Hid (∀w u,Rd .u8 w u (n+16) (fun i=>f (32+i))->Calls Tryz.prog 78 #[.agg (arr .u8 32 KR),.agg (arr .u8 12 (fun _=>0)),.slice none 0 0,u] w fun e w'=>e=.returned (.tuple #[.slice none 0 0,.int .i64 20])/\Below w.heap.size w w'):=fun w u h=>by
      refine(HOP.out w u h).mono ?_;rintro e w' ⟨v,rfl,ho,hb⟩;rw[ho.2 rfl];exact⟨rfl,hb⟩
     refine bC (n:=40) aQ aQ aQ rfl
      (fun ii vv _=>(match ii with | 0=>vv=.agg (arr .u8 32 (KR)) | 1=>vv=.agg (arr .u8 12 (fun _=>0)) | 2=>vv=.slice (some ⟨b1,o1,none⟩) N tc | 3=>vv=.slice a2 (N - 32) (tc - 32) | 4=>vv=.tuple #[.slice none 0 0,.int .i64 (20)] | 5 | 7=>vv=.slice none 0 0 | 6 | 8=>vv=.int .i64 (20) | _=>True))
      (fun w w'=>Below w.heap.size w w') (fun _ _ h=>h) (fun _ _ _ _ h _=>h) ?_ ?_
     ·refine dG ?_;refine⟨?_,?_,?_,?_,?_,?_,?_,?_,?_,trivial⟩
      ·intro a w2 hB hF hd;exact aN <| aW (aF rfl iL rfl fZ (hF.same 7 rfl) (h7.below hB h7.lt)) rfl
      ·intro a w2 hB hF hd;exact aN <| aW (fK rfl (HB0.out _ _)) rfl
      ·intro a w2 hB hF hd;exact aN <| aG _ (.inl rfl) aR (hF.same 1 rfl)
      ·intro a w2 hB hF hd;exact aN <| aW (dY rfl (hd 2 _ rfl (aj rfl)) (by simp only[Option.map_some,Option.map_none];exact G2.out _)) rfl
      ·intro a w2 hB hF hd;refine aN <| aI _ _ _ rfl Tryz.call78 _ (yD (hd 0 _ rfl (aj rfl)) (hd 1 _ rfl (aj rfl)) rfl (hd 3 _ rfl (aj rfl))) aR ((Ni.out w2 _ (HRS.out _ ((HV0.out.below aD).below hB))).mono ?_);rintro e w3 ⟨rfl,hb⟩;exact⟨_,rfl,rfl,hb⟩
      ·intro a w2 hB hF hd;exact aN <| aW (bU rfl (hd 4 _ rfl (aj rfl)) rfl) rfl
      ·intro a w2 hB hF hd;exact aN <| aW (bU rfl (hd 4 _ rfl (aj rfl)) rfl) rfl
      ·intro a w2 hB hF hd;exact aN <| aG _ (.inr rfl) aR (hd 5 _ rfl (aj rfl))
      ·intro a w2 hB hF hd;exact aN <| aG _ (.inr rfl) aR (hd 6 _ rfl (aj rfl))
     ·intro a w4 hB hF hS;have ha:=aO rfl rfl hF [_,_,_,_,_,_,_,_,_] rfl ⟨hS 0 _ rfl,hS 1 _ rfl,hS 2 _ rfl,hS 3 _ rfl,hS 4 _ rfl,hS 5 _ rfl,hS 6 _ rfl,hS 7 _ rfl,hS 8 _ rfl,trivial⟩;simp only[puts,Act.put,fB,fD,fF] at ha;subst ha;clear hS hF;have jF:=aD.trans (hB.mono aD.size);go_wp2;go_ret2;exact⟨_,_,rfl,HR1.out (by trivial) _,jF⟩
    case true=>
     have Ni:Hid (∀w u,Rd .u8 w u (n+16) (fun i=>f (32+i))->Calls Tryz.prog 78 #[.agg (arr .u8 32 KR),.agg (arr .u8 12 (fun _=>0)),.slice none 0 0,u] w fun e w'=> ∃v,e=.returned v/\AQ w' v n H/\Below w.heap.size w w'):=fun w u h=>by
      refine(HOP.out w u h).mono ?_;rintro e w' ⟨v,rfl,ho,hb⟩;exact⟨v,rfl,ho.1 rfl,hb⟩
     refine bC (n:=40) aQ aQ aQ rfl
      (fun ii vv ww=>(match ii with | 0=>vv=.agg (arr .u8 32 (KR)) | 1=>vv=.agg (arr .u8 12 (fun _=>0)) | 2=>vv=.slice (some ⟨b1,o1,none⟩) N tc | 3=>vv=.slice a2 (N - 32) (tc - 32) | 6 | 8=>vv=.int .i64 (0) | _=>True)/\(ii=4->AQ ww vv n (H))/\(ii=5->Rd .u8 ww vv n (H))/\(ii=7->Rd .u8 ww vv n (H)))
      (fun w w'=>Below w.heap.size w w') (fun _ _ h=>h) (fun i v w w' h hE=>⟨h.1,fun e=>AQ.below (h.2.1 e) hE,fun e=>Rd.below (h.2.2.1 e) hE,fun e=>Rd.below (h.2.2.2 e) hE⟩) ?_ ?_
     ·refine dG ?_;refine⟨?_,?_,?_,?_,?_,?_,?_,?_,?_,trivial⟩
      ·intro a w2 hB hF hd;exact aN <| aW (aF rfl iL rfl fZ (hF.same 7 rfl) (h7.below hB h7.lt)) ⟨rfl,aP,aP,aP⟩
      ·intro a w2 hB hF hd;exact aN <| aW (fK rfl (HB0.out _ _)) ⟨rfl,aP,aP,aP⟩
      ·intro a w2 hB hF hd;exact aN <| aG _ (.inl rfl) aR ⟨(hF.same 1 rfl),aP,aP,aP⟩
      ·intro a w2 hB hF hd;exact aN <| aW (dY rfl ((hd 2 _ rfl (aj rfl)).1) (by simp only[Option.map_some,Option.map_none];exact G2.out _)) ⟨rfl,aP,aP,aP⟩
      ·intro a w2 hB hF hd;refine aN <| aI _ _ _ rfl Tryz.call78 _ (yD ((hd 0 _ rfl (aj rfl)).1) ((hd 1 _ rfl (aj rfl)).1) rfl ((hd 3 _ rfl (aj rfl)).1)) aR ((Ni.out w2 _ (HRS.out _ ((HV0.out.below aD).below hB))).mono ?_);rintro e w3 ⟨u,rfl,hr,hb⟩;exact⟨u,rfl,⟨trivial,fun _=>hr,aP,aP⟩,hb⟩
      ·intro a w2 hB hF hd;rw[if_pos (dA rfl)];obtain⟨u_,II,Rq⟩:=((hd 4 _ rfl (aj rfl)).2.1 rfl)
       exact aW (bU rfl II rfl) ⟨trivial,aP,fun _=>(Rq),aP⟩
      ·intro a w2 hB hF hd;rw[if_pos (dA rfl)];obtain⟨u_,II,Rq⟩:=((hd 4 _ rfl (aj rfl)).2.1 rfl)
       exact aW (bU rfl II rfl) ⟨rfl,aP,aP,aP⟩
      ·intro a w2 hB hF hd;exact aN <| aG _ (.inr rfl) aR ⟨trivial,aP,aP,fun _=>((hd 5 _ rfl (aj rfl)).2.2.1 rfl)⟩
      ·intro a w2 hB hF hd;exact aN <| aG _ (.inr rfl) aR ⟨((hd 6 _ rfl (aj rfl)).1),aP,aP,aP⟩
     ·intro a w4 hB hF hS;obtain⟨x37,agw⟩:∃x,x=a.tmps.getD 37 undef:=⟨_,rfl⟩
      have P37:AQ w4 x37 n (H):=by rw[agw];exact(hS 4 _ rfl).2.1 rfl
      obtain⟨x38,hx38⟩:∃x,x=a.tmps.getD 38 undef:=⟨_,rfl⟩
      have P38:Rd .u8 w4 x38 n (H):=by rw[hx38];exact(hS 5 _ rfl).2.2.1 rfl
      obtain⟨x4,hx4⟩:∃x,x=a.tmps.getD 4 undef:=⟨_,rfl⟩
      have P4:Rd .u8 w4 x4 n (H):=by rw[hx4];exact(hS 7 _ rfl).2.2.2 rfl
      have ha:=aO rfl rfl hF [_,_,_,_,x37,x38,_,x4,_] rfl ⟨(hS 0 _ rfl).1,(hS 1 _ rfl).1,(hS 2 _ rfl).1,(hS 3 _ rfl).1,agw.symm,hx38.symm,(hS 6 _ rfl).1,hx4.symm,(hS 8 _ rfl).1,trivial⟩;simp only[puts,Act.put,fB,fD,fF] at ha;subst ha;clear agw hx38 hx4;clear hS hF;have jF:=aD.trans (hB.mono aD.size);have HR:=ay (HR2.out (by trivial) _ _ P4);clear P4 P37 P38;go_wp2;go_ret2;exact⟨_,_,rfl,HR.out,jF⟩
theorem Bh (S U:Int):0<=mulN S U/\mulN S U<256 ^ 32:=by
 have h0:=Bu (jI (fq S) (U % 2 ^ 255)) (show Pr≠0 by decide);have h1:=Gj (jI (fq S) (U % 2 ^ 255)) Jo;have h2:Pr<=256 ^ 32:=by decide
 exact⟨h0,Int.lt_of_lt_of_le h1 h2⟩
theorem Sq (S P:Int) (n:Nat) (f:Nat->Int):wW (nO S P n f)=mulN S 9:=by
 have h:sm 256 (nO S P n f) 32=sm 256 (dg 256 (mulN S 9)) 32:=jA fun i hi=>RP hi;unfold wW;rw[h,qH aM,Nb (Bh S 9).1 (Bh S 9).2]
theorem abf (S P:Int) (n:Nat) (f:Nat->Int) (i:Nat):0<=nO S P n f i/\nO S P n f i<256:=by
 unfold nO nN
 split
 ·exact bR aM _ _
 ·exact zQ _ _ _ _ _ _ _
theorem abe (S P:Int) (n:Nat) (f:Nat->Int):(fun i=>nO S P n f (32+i))=lC (ug (mulN S P) (mulN S 9) P) CG 0 CG n f:=funext fun _=>Go.bI.Bt
theorem afZ (S T:Int):mulN T (mulN S 9)=mulN S (mulN T 9):=MC T S (9 % 2 ^ 255)
end Go.Proofs.YtpcjekgfnfjbpaaGreat
