/-
  Part 51 of SuiteHides. Conditions: named in each theorem.
-/
import Derived.Test.YtpcjekgfnfjbpaaGreatPkSuiteHides35
import Derived.Test.YtpcjekgfnfjbpaaGreatPkSuiteHides49
import Derived.Test.YtpcjekgfnfjbpaaGreatPkSuiteHides50
import Derived.Test.YtpcjekgfnfjbpaaGreatPkSuiteHides36
import Derived.Test.YtpcjekgfnfjbpaaGreatPkSuiteHides31
set_option linter.unusedVariables false
set_option linter.unusedSimpArgs false
set_option maxRecDepth 100000
set_option maxHeartbeats 6400000
namespace Go.aQ
open Go.RowKit
def JN (w:World) (v:Value) (T:TypeId) (n:Nat) (cs:Array Value):Prop:=∃b,v=.slice (some ⟨b,0,none⟩) n n/\w.heap[b]? =some (.cells cs T (0,0))
theorem JN.below {w w':World} {v:Value} {T:TypeId} {n:Nat} {cs:Array Value} (h:JN w v T n cs) (hb:Below w.heap.size w w'):JN w' v T n cs:=by
 obtain ⟨b,e,h⟩:=h;exact ⟨b,e,by rw [hb.block b (Array.getElem?_eq_some_iff.1 h).1];exact h⟩
theorem JN.aea {w:World} {v v1 v2:Value} {T:TypeId} {n m:Nat} {f g:Nat->Int} (h:JN w v T 2 [v1,v2].toArray) (h1:Rd .u8 w v1 n f) (h2:Rd .u8 w v2 m g):
  qm w v 2 (jw 1 (fun _=> n) (fun _=> m)) (lF 1 (fun _=> f) (fun _=> g)):=by
 obtain ⟨b,rfl,h⟩:=h;refine ⟨_,_,rfl,aP _,by decide,fun _=> ⟨b,0,rfl,(Array.getElem?_eq_some_iff.1 h).1,fun j hj=> ?_⟩⟩;rw [lH,cell_of_row _ _ _ _ T (0,0) h];rcases (by omega:j=0\/j=1) with rfl | rfl
 ·exact ⟨v1,rfl,h1⟩
 ·exact ⟨v2,rfl,h2⟩
def MQ (w:World) (e:TypeId) (N:Nat) (v:Value) (T:TypeId) (f g:Nat->Int):Prop:=∃b u1 u2,v=.slice (some ⟨b,0,none⟩) 2 2/\w.heap[b]? =some (.cells [u1,u2].toArray T (0,0))/\Own .u8 e N w u1 32 f/\Own .u8 e N w u2 32 g
theorem MQ.zW {Ts:List TypeId} {w w':World} {e:TypeId} {N:Nat} {v:Value} {T:TypeId} {f g:Nat->Int} (hT:Ts.contains T=false) (he:Ts.contains e=false) (h:MQ w e N v T f g) (hk:vJ Ts w w'):MQ w' e N v T f g:=by
 obtain ⟨b,u1,u2,e1,h1,h2,h3⟩:=h;exact ⟨b,u1,u2,e1,hk b _ T hT h1,h2.zW he hk,h3.zW he hk⟩
theorem MQ.txt {w:World} {e:TypeId} {N:Nat} {v:Value} {T:TypeId} {f g:Nat->Int} (h:MQ w e N v T f g):qm w v 2 (jw 1 (fun _=> 32) (fun _=> 32)) (lF 1 (fun _=> f) (fun _=> g)):=by
 obtain ⟨b,u1,u2,rfl,h,h1,h2⟩:=h;exact JN.aea ⟨b,rfl,h⟩ h1.rd h2.rd
theorem XL:∀i,i<32->upd (fun _=> 0) 0 9 i=dg 256 9 i:=by
 have key:∀i:Fin 32,upd (fun _=> 0) 0 9 i.val=dg 256 9 i.val:=by decide+kernel
 exact fun i h=> key ⟨i,h⟩
end Go.aQ
namespace Go.Proofs.YtpcjekgfnfjbpaaGreat
open Go.RowKit Go.aQ Go.ChangeShapes
attribute [local go_sem ↓] Go.wp_at_zero Go.wp_at_succ
def MH:ByteArray:=⟨#[98,111,120]⟩
def JA:Nat->Nat:=jw 1 (fun _=> 32) (fun _=> 32)
def MI (F P:Int):Nat->Nat->Int:=lF 1 (fun _=> dg 256 F) (fun _=> dg 256 P)
def lN (X F P:Int):Nat->Int:=uh 32 (dg 256 X) (oM MH.size JA 2) (sF MH.size (pz MH) JA (MI F P) 2)
theorem Fq (X F P:Int):∀i,i<32->0<=lN X F P i/\lN X F P i<256:=fun i _=> yQ _ _ _ _ i
theorem Og:∀j,j<2->JA j<=4000:=by intro j hj;rcases (by omega:j=0\/j=1) with rfl | rfl<;> decide
theorem Vy (F P:Int):∀j,j<2->∀i,i<JA j->0<=MI F P j i/\MI F P j i<256:=by
 intro j hj i _;rcases (by omega:j=0\/j=1) with rfl | rfl
 ·exact aN (by decide) _ _
 ·exact aN (by decide) _ _
theorem Vw (X F P:Int) (v t:Value) (w:World) (hv:Rd .u8 w v 32 (dg 256 X)) (ht:qm w t 2 JA (MI F P)):
  Calls Tryz.prog 120 #[v,.string MH,t] w fun e w'=> e=.returned (.tuple #[.agg (arr .u8 32 (lN X F P)),.int .i64 0])/\Below w.heap.size w w':=
 Jj v 32 (dg 256 X) MH t 2 JA (MI F P) w hv (by decide) (by decide) (fun i _=> aN (by decide) _ _) (by decide) ht (by decide) Og (Vy F P)
theorem QA {a:Act} (w:World):(Instr.build 22 ((#[] :Array (Nat × Operand)).map fun (i,x)=> (i,a.eval x))).run Tryz.prog w=.ok (.agg (arr .u8 32 (fun _=> 0))) w:=Go.run_build w _ _ _ (by kernel_rfl)
theorem Dp {a:Act} (w:World):(Instr.build 35 ((#[] :Array (Nat × Operand)).map fun (i,x)=> (i,a.eval x))).run Tryz.prog w=.ok (.agg (arr .u8 12 (fun _=> 0))) w:=Go.run_build w _ _ _ (by kernel_rfl)
def kE (X F P:Int):Nat->Int:=if X=0 then fun _=> 0 else lN X F P
theorem Dn (S O F P:Int) (w:World):Calls Tryz.prog 118 #[.agg (arr .u8 32 (dg 256 S)),.agg (arr .u8 32 (dg 256 O)),.agg (arr .u8 32 (dg 256 F)),.agg (arr .u8 32 (dg 256 P))] w fun e w'=>
  e=.returned (.tuple #[.agg (arr .u8 32 (kE (mulN S O) F P)),.int .i64 (oK (mulN S O))])/\Below w.heap.size w w':=by
 have HSH:=ak (fun w=> EG S O w);have HP0:=ak (fun (a:Act) w=> QA (a:=a) w);have HDR:=ak (fun w v t=> Vw (mulN S O) F P v t w);have HE:Hid (oK (mulN S O)=if mulN S O=0 then 21 else 0):=rfl;have HK:Hid (kE (mulN S O) F P=if mulN S O=0 then (fun _=> 0) else lN (mulN S O) F P):=rfl;obtain ⟨X,hX⟩:∃X,X=mulN S O:=⟨_,rfl⟩
 rw [<-hX] at HSH HDR HE HK ⊢;obtain ⟨er,her⟩:∃er,er=oK X:=⟨_,rfl⟩
 rw [<-her] at HSH HE ⊢;obtain ⟨KK,Wz⟩:∃K,K=lN X F P:=⟨_,rfl⟩
 rw [<-Wz] at HDR HK;obtain ⟨KR,NV⟩:∃K,K=kE X F P:=⟨_,rfl⟩
 rw [<-NV] at HK ⊢;clear hX her Wz NV
 go_enter Tryz.func118,Tryz.ntmps118
 go_upto_region 1 with (fail)
 refine aC (fun w1=> aD .u8 w1 w.heap.size 32 (dg 256 S)/\aD .u8 w1 (w.heap.size+1) 32 (dg 256 O)/\aD .u8 w1 (w.heap.size+2) 32 (dg 256 F)/\aD .u8 w1 (w.heap.size+3) 32 (dg 256 P)/\aD .u8 w1 (w.heap.size+4) 32 (fun _=> 0)/\Below w.heap.size w w1)
  ⟨.alloc (.alloc (.alloc (.alloc (bg rfl rfl) _) _) _) _,.alloc (.alloc (.alloc (bg (by first | omega | (simp<;> omega)) rfl) _) _) _,.alloc (.alloc (bg (by first | omega | (simp<;> omega)) rfl) _) _,.alloc (bg (by first | omega | (simp<;> omega)) rfl) _,bg (by first | omega | (simp<;> omega)) (by rfl),(((((bA _ _).alloc (aP _) _).alloc (by first | omega | (simp<;> omega)) _).alloc (by first | omega | (simp<;> omega)) _).alloc (by first | omega | (simp<;> omega)) _).alloc (by first | omega | (simp<;> omega)) _⟩ ?_
 rintro w1 ⟨h4,h5,h6,h7,h8,hbel⟩;go_wp2_with (first | (refine aM rfl 22 _ rfl .u8 w.heap.size 32 (dg 256 S) 5 dB bZ rfl h4 ?_) | (refine aM rfl 22 _ rfl .u8 (w.heap.size+1) 32 (dg 256 O) 5 dB bZ rfl h5 ?_));refine (HSH.out _).mono ?_;rintro e w2 ⟨rfl,hb⟩;replace h6:=h6.kept hb;replace h7:=h7.kept hb;replace h8:=h8.kept hb;replace hbel:=hbel.trans (hb.mono hbel.size);have Zw:=h8.lt;clear hb h4 h5;go_upto_region 2 with (refine aH rfl 22 _ _ rfl .u8 w2.heap.size 32 (fun _=> 0) (dg 256 X) bZ rfl rfl (bg rfl (by rfl)) ?_);refine aC (fun w3=> aD .u8 w3 w2.heap.size 32 (dg 256 X)/\Below w2.heap.size w2 w3) ⟨(bg rfl (by rfl):aD .u8 _ _ 32 (fun _=> 0)).setRow _ _,ay ((bA _ _).alloc (aP _) _) (aP _) _⟩ ?_;rintro w3 ⟨h10,hb⟩;replace h6:=h6.kept hb;replace h7:=h7.kept hb;replace h8:=h8.kept hb;replace hbel:=hbel.trans (hb.mono hbel.size);obtain ⟨x10,e10⟩:∃x,x=w2.heap.size:=⟨_,rfl⟩
 rw [<-e10] at h10 Zw ⊢;clear e10 hb
 try simp only [Act.put,dS,dU,dV]
 by_cases hX:X=0
 case pos=>
  obtain rfl:er=21:=by rw [HE.out,if_pos hX]
  obtain rfl:KR=fun _=> 0:=by rw [HK.out,if_pos hX]
  clear hX;go_wp2_with (first | (refine oD rfl (fF rfl (HP0.out _ _)) ?_) | (refine aH rfl 22 _ _ rfl .u8 (w.heap.size+4) 32 (fun _=> 0) (fun _=> 0) bZ rfl rfl h8 ?_));exact bodyPost_ret (dM rfl _ _ .u8 (w.heap.size+4) 32 _ 5 rfl (h8.setRow 32 (fun _=> 0)) dB bZ) rfl ⟨rfl,ay hbel (by omega) _⟩
 case neg=>
  obtain rfl:er=0:=by rw [HE.out,if_neg hX]
  obtain rfl:KR=KK:=by rw [HK.out,if_neg hX]
  clear hX HK HE;go_upto_region 4 with (fail)
  refine gB (n:=29) 7 (by decide) (by kernel_rfl) (by kernel_rfl) (by kernel_rfl) (by kernel_rfl) rfl
   (fun ii vv ww=> (match ii with | 0=> vv=.slice (some ⟨x10,0,none⟩) 32 32 | 1=> vv=.slice (some ⟨(w.heap.size+2),0,none⟩) 32 32 | 2=> vv=.slice (some ⟨(w.heap.size+3),0,none⟩) 32 32 | 4=> vv=.tuple #[.agg (arr .u8 32 (KR)),.int .i64 (0)] | 5=> vv=.agg (arr .u8 32 (KR)) | 6=> vv=.int .i64 (0) | _=> True)/\(ii=3->JN ww vv 23 2 [.slice (some ⟨w.heap.size+2,0,none⟩) 32 32,.slice (some ⟨w.heap.size+3,0,none⟩) 32 32].toArray))
   (fun i v w w' h hE=> ⟨h.1,fun e=> JN.below (h.2 e) hE⟩) ?_ ?_
  ·refine dD ?_;refine ⟨?_,?_,?_,?_,?_,?_,?_,(aF),(aF),trivial⟩
   ·intro _ a w2 hB hF hd;exact aG <| aO (eB rfl (hF.same 10 rfl) dB (by kernel_rfl)) ⟨rfl,aF⟩
   ·intro _ a w2 hB hF hd;exact aG <| aO (eB rfl (hF.same 6 rfl) dB (by kernel_rfl)) ⟨rfl,aF⟩
   ·intro _ a w2 hB hF hd;exact aG <| aO (eB rfl (hF.same 7 rfl) dB (by kernel_rfl)) ⟨rfl,aF⟩
   ·intro _ a w2 hB hF hd;exact aG <| dW 55 23 2 _ [.slice (some ⟨(w.heap.size+2),0,none⟩) 32 32,.slice (some ⟨(w.heap.size+3),0,none⟩) 32 32] rfl Tryz.underlying55 (by kernel_rfl) (by kernel_rfl) rfl (by decide) (by decide) (by intro v hv;simp only [List.mem_cons,List.not_mem_nil,or_false] at hv;rcases hv with rfl | rfl<;> rfl) (by simp only [qy,List.map_cons,List.map_nil,show a.eval (Operand.tmp 23)=.slice (some ⟨(w.heap.size+2),0,none⟩) 32 32 from ((hd 1 _ rfl (aj rfl)).1),show a.eval (Operand.tmp 24)=.slice (some ⟨(w.heap.size+3),0,none⟩) 32 32 from ((hd 2 _ rfl (aj rfl)).1)];rfl) (by simp) ⟨trivial,fun _=> ((⟨_,rfl,heap_alloc_new _ _⟩))⟩
   ·intro _ a w2 hB hF hd;refine aG <| aI _ _ _ rfl Tryz.call120 _ (qj ((hd 0 _ rfl (aj rfl)).1) rfl rfl) (by simp) ((HDR.out w2 _ _ ((h10.kept hB).rd (by decide)) (((hd 3 _ rfl (aj rfl)).2 rfl).aea ((h6.kept hB).rd (by decide)) ((h7.kept hB).rd (by decide)))).mono ?_);rintro e w3 ⟨rfl,hb⟩;exact ⟨_,rfl,⟨rfl,aF⟩,hb⟩
   ·intro _ a w2 hB hF hd;exact aG <| aO (aU rfl ((hd 4 _ rfl (aj rfl)).1) rfl) ⟨rfl,aF⟩
   ·intro _ a w2 hB hF hd;exact aG <| aO (aU rfl ((hd 4 _ rfl (aj rfl)).1) rfl) ⟨rfl,aF⟩
  ·intro a w4 hB hF hS;obtain ⟨x25,hx25⟩:∃x,x=a.tmps.getD 25 undef:=⟨_,rfl⟩
   have ha:=aK rfl rfl hF [_,_,_,x25,_,_,_] rfl ⟨(hS 0 _ rfl (by decide)).1,(hS 1 _ rfl (by decide)).1,(hS 2 _ rfl (by decide)).1,hx25.symm,(hS 4 _ rfl (by decide)).1,(hS 5 _ rfl (by decide)).1,(hS 6 _ rfl (by decide)).1,trivial⟩;simp only [puts,List.take_succ_cons,List.take_zero,Act.put,dS,dU,dV] at ha;subst ha;change tl _ _ _ (_::_:: []) _ _;clear hx25;clear hS hF;replace h8:=h8.kept hB;replace hbel:=hbel.trans (hB.mono hbel.size);refine jP rfl (bB 22 _ _ rfl .u8 (w.heap.size+4) 32 (fun _=> 0) KR bZ rfl rfl h8 ?_);refine kN rfl _ (.inr rfl) (nY ?_);have h8':=h8.setRow 32 KR;have hb':=ay hbel (show w.heap.size<=w.heap.size+4 by omega) (arr .u8 32 KR);clear h8 hbel hB;simp only [Act.put,Act.eval,dS,dU,dV];go_wp2;exact bodyPost_ret (dM rfl _ _ .u8 (w.heap.size+4) 32 _ 5 rfl h8' dB bZ) rfl ⟨rfl,hb'⟩
def qR:Nat->Int:=fun _=> 0
def fU (S P:Int) (n:Nat) (f:Nat->Int):Nat->Int:=gK 32 (dg 256 (mulN S 9)) (eP (lN (mulN S P) (mulN S 9) P) qR 0 qR n f)
def WrR (S P:Int) (n:Nat) (f:Nat->Int) (w:World) (u:Value) (er:Int):Prop:=(mulN S P=0->u=.slice none 0 0/\er=21)/\(mulN S P≠0->er=0/\Rd .u8 w u (32+(n+16)) (fU S P n f))
theorem ME (S P:Int) (v:Value) (n:Nat) (f:Nat->Int) (w:World) (hv:Rd .u8 w v n f) (hn:n<=300):
  Calls Tryz.prog 65 #[.agg (arr .u8 32 (dg 256 S)),.agg (arr .u8 32 (dg 256 P)),v] w fun e w'=> ∃u er,e=.returned (.tuple #[u,.int .i64 er])/\WrR S P n f w' u er/\Below w.heap.size w w':=by
 have Kk:=ak (fun w=> uS S w);have vO:=ak (fun w=> Dn S P (mulN S 9) P w)
 have Oo:Hid (∀w u,Rd .u8 w u n f->Calls Tryz.prog 70 #[.agg (arr .u8 32 (lN (mulN S P) (mulN S 9) P)),.agg (arr .u8 12 (fun _=> 0)),.slice none 0 0,u] w fun e w'=> ∃v,e=.returned (.tuple #[v,.int .i64 0])/\Go.aQ.Own .u8 5 w.heap.size w' v (n+16) (eP (lN (mulN S P) (mulN S 9) P) qR 0 qR n f)/\Below w.heap.size w w'):=fun w u h=>
  Dt _ qR (Fq _ _ _) (fun i _=> by unfold qR;decide) _ u 0 n qR f w (Rd.nil _ _ _) h (fun i hi=> absurd hi (by omega)) (by decide) (by omega)
 have HB0:=ak (fun (a:Act) w=> Dp (a:=a) w);have Ol:Hid (fU S P n f=gK 32 (dg 256 (mulN S 9)) (eP (lN (mulN S P) (mulN S 9) P) qR 0 qR n f)):=rfl;have HT0:=ak hv;have Dz:=ak hn;have vK:Hid (∀w u er,((mulN S P=0->u=.slice none 0 0/\er=21)/\(mulN S P≠0->er=0/\Rd .u8 w u (32+(n+16)) (fU S P n f)))->WrR S P n f w u er):=fun w u er h=> h;obtain ⟨ta,tc,ev,_⟩:=id hv;subst ev;by_cases hX:mulN S P=0
 case pos=>
  have hk1:kE (mulN S P) (mulN S 9) P=fun _=> 0:=by unfold kE;rw [if_pos hX]
  have hk2:oK (mulN S P)=21:=by unfold oK;rw [if_pos hX]
  rw [hk1,hk2] at vO;have HR:=ak (fun w=> vK.out w (.slice none 0 0) 21 ⟨fun _=> ⟨rfl,rfl⟩,fun h=> absurd hX h⟩);obtain ⟨FI,NW⟩:∃x,x=mulN S 9:=⟨_,rfl⟩
  rw [<-NW] at Kk vO;clear hX hk1 hk2 Oo NW hv hn Ol vK
  go_enter Tryz.func65,Tryz.ntmps65
  go_upto_region 1 with (fail);refine aC (fun w1=> aD .u8 w1 w.heap.size 32 (dg 256 S)/\aD .u8 w1 (w.heap.size+1) 32 (dg 256 P)/\Below w.heap.size w w1) ⟨.alloc (bg rfl rfl) _,bg (by first | omega | (simp<;> omega)) rfl,((bA _ _).alloc (aP _) _).alloc (by first | omega | (simp<;> omega)) _⟩ ?_;rintro w1 ⟨h3,h4,hbel⟩;go_wp2_with (refine aM rfl 22 _ rfl .u8 w.heap.size 32 (dg 256 S) 5 dB bZ rfl h3 ?_);refine (Kk.out _).mono ?_;rintro e w2 ⟨rfl,hb⟩;replace h3:=h3.kept hb;replace h4:=h4.kept hb;replace hbel:=hbel.trans (hb.mono hbel.size);have hl4:=h4.lt;clear hb;go_upto_region 2 with (refine aH rfl 22 _ _ rfl .u8 w2.heap.size 32 (fun _=> 0) (dg 256 FI) bZ rfl rfl (bg rfl (by rfl)) ?_);refine aC (fun w3=> aD .u8 w3 w2.heap.size 32 (dg 256 FI)/\Below w2.heap.size w2 w3) ⟨(bg rfl (by rfl):aD .u8 _ _ 32 (fun _=> 0)).setRow _ _,ay ((bA _ _).alloc (aP _) _) (aP _) _⟩ ?_;rintro w3 ⟨h8,hb⟩;replace h3:=h3.kept hb;replace h4:=h4.kept hb;replace hbel:=hbel.trans (hb.mono hbel.size);obtain ⟨x8,e8⟩:∃x,x=w2.heap.size:=⟨_,rfl⟩
  rw [<-e8] at h8 hl4 ⊢;clear e8 hb
  try simp only [Act.put,dS,dU,dV]
  go_wp2_with (first
   | (refine aM rfl 22 _ rfl .u8 w.heap.size 32 (dg 256 S) 5 dB bZ rfl h3 ?_)
   | (refine aM rfl 22 _ rfl .u8 (w.heap.size+1) 32 (dg 256 P) 5 dB bZ rfl h4 ?_)
   | (refine aM rfl 22 _ rfl .u8 x8 32 (dg 256 FI) 5 dB bZ rfl h8 ?_))
  refine (vO.out _).mono ?_;rintro e w4 ⟨rfl,hb⟩;replace hbel:=hbel.trans (hb.mono hbel.size);clear hb h3 h4 h8;go_upto_region 3 with (refine aH rfl 22 _ _ rfl .u8 w4.heap.size 32 (fun _=> 0) (fun _=> 0) bZ rfl rfl (bg rfl (by rfl)) ?_);refine aC (fun w5=> Below w.heap.size w w5) (ay (hbel.alloc hbel.size _) hbel.size _) ?_;clear hbel;rintro w5 hbel
  try simp only [Act.put,dS,dU,dV]
  go_wp2;go_ret2;exact ⟨_,_,rfl,HR.out _,hbel⟩
 case neg=>
  have hk1:kE (mulN S P) (mulN S 9) P=lN (mulN S P) (mulN S 9) P:=by unfold kE;rw [if_neg hX]
  have hk2:oK (mulN S P)=0:=by unfold oK;rw [if_neg hX]
  rw [hk1,hk2] at vO;have HR:=ak (fun w u h=> vK.out w u 0 ⟨fun h=> absurd h hX,fun _=> ⟨rfl,h⟩⟩);obtain ⟨K,hK⟩:∃x,x=lN (mulN S P) (mulN S 9) P:=⟨_,rfl⟩
  rw [<-hK] at vO Oo Ol;obtain ⟨FI,NW⟩:∃x,x=mulN S 9:=⟨_,rfl⟩
  rw [<-NW] at Kk vO Ol;obtain ⟨SF,Db⟩:∃x,x=eP K qR 0 qR n f:=⟨_,rfl⟩
  rw [<-Db] at Oo Ol;obtain ⟨WF,hWF⟩:∃x,x=fU S P n f:=⟨_,rfl⟩
  rw [<-hWF] at HR Ol;clear hX hk1 hk2 NW hK Db hWF hv vK;have h28:¬ (1048528:Int)<(n:Int):=by omega
  clear hn
  go_enter Tryz.func65,Tryz.ntmps65
  go_upto_region 1 with (fail);refine aC (fun w1=> aD .u8 w1 w.heap.size 32 (dg 256 S)/\aD .u8 w1 (w.heap.size+1) 32 (dg 256 P)/\Below w.heap.size w w1) ⟨.alloc (bg rfl rfl) _,bg (by first | omega | (simp<;> omega)) rfl,((bA _ _).alloc (aP _) _).alloc (by first | omega | (simp<;> omega)) _⟩ ?_;rintro w1 ⟨h3,h4,hbel⟩;go_wp2_with (refine aM rfl 22 _ rfl .u8 w.heap.size 32 (dg 256 S) 5 dB bZ rfl h3 ?_);refine (Kk.out _).mono ?_;rintro e w2 ⟨rfl,hb⟩;replace h3:=h3.kept hb;replace h4:=h4.kept hb;replace hbel:=hbel.trans (hb.mono hbel.size);have hl4:=h4.lt;clear hb;go_upto_region 2 with (refine aH rfl 22 _ _ rfl .u8 w2.heap.size 32 (fun _=> 0) (dg 256 FI) bZ rfl rfl (bg rfl (by rfl)) ?_);refine aC (fun w3=> aD .u8 w3 w2.heap.size 32 (dg 256 FI)/\Below w2.heap.size w2 w3) ⟨(bg rfl (by rfl):aD .u8 _ _ 32 (fun _=> 0)).setRow _ _,ay ((bA _ _).alloc (aP _) _) (aP _) _⟩ ?_;rintro w3 ⟨h8,hb⟩;replace h3:=h3.kept hb;replace h4:=h4.kept hb;replace hbel:=hbel.trans (hb.mono hbel.size);obtain ⟨x8,e8⟩:∃x,x=w2.heap.size:=⟨_,rfl⟩
  rw [<-e8] at h8 hl4 ⊢;clear e8 hb
  try simp only [Act.put,dS,dU,dV]
  go_wp2_with (first
   | (refine aM rfl 22 _ rfl .u8 w.heap.size 32 (dg 256 S) 5 dB bZ rfl h3 ?_)
   | (refine aM rfl 22 _ rfl .u8 (w.heap.size+1) 32 (dg 256 P) 5 dB bZ rfl h4 ?_)
   | (refine aM rfl 22 _ rfl .u8 x8 32 (dg 256 FI) 5 dB bZ rfl h8 ?_))
  refine (vO.out _).mono ?_;rintro e w4 ⟨rfl,hb⟩;replace h8:=h8.kept hb;replace hbel:=hbel.trans (hb.mono hbel.size);have Zw:=h8.lt;clear hb h3 h4;go_upto_region 3 with (refine aH rfl 22 _ _ rfl .u8 w4.heap.size 32 (fun _=> 0) K bZ rfl rfl (bg rfl (by rfl)) ?_);refine aC (fun w5=> aD .u8 w5 w4.heap.size 32 K/\Below w4.heap.size w4 w5) ⟨(bg rfl (by rfl):aD .u8 _ _ 32 (fun _=> 0)).setRow _ _,ay ((bA _ _).alloc (aP _) _) (aP _) _⟩ ?_;rintro w5 ⟨h9,hb⟩;replace h8:=h8.kept hb;replace hbel:=hbel.trans (hb.mono hbel.size);obtain ⟨x9,e9⟩:∃x,x=w4.heap.size:=⟨_,rfl⟩
  rw [<-e9] at h9 Zw ⊢;clear e9 hb
  try simp only [Act.put,dS,dU,dV]
  go_wp2_with (first
   | (refine aM rfl 22 _ rfl .u8 x9 32 K 5 dB bZ rfl h9 ?_)
   | (refine oD rfl (fF rfl (HB0.out _ _)) ?_))
  refine (Oo.out _ _ (HT0.out.below hbel)).mono ?_;rintro e w6 ⟨u,rfl,hu,hb⟩;have HU:=ak hu.rd;replace h8:=h8.kept hb;replace hbel:=hbel.trans (hb.mono hbel.size);have hlo:∀i,i<32->WF i=dg 256 FI i:=fun i hi=> by rw [Ol.out];unfold gK;rw [if_pos hi]
  have hhi:∀i,i<n+16->WF (32+i)=SF i:=fun i _=> by rw [Ol.out];unfold gK;rw [if_neg (by omega),show 32+i - 32=i by omega]
  have ZW:Hid (∀i,i<32->w6.cell? ⟨x8,0+i,none⟩=some (.int .u8 (WF i))):=fun i hi=> by rw [hlo i hi,lH];exact h8.cell i hi
  have HHI:=ak hhi;have hnn:=Dz.out;clear hb hu h9 Zw hlo hhi;go_wp2_with (at_builtin;refine xO rfl _ _ 23 rfl 5 .u8 1 fQ iW x8 0 32 WF ZW.out rfl u (n+16) SF HU.out rfl (by omega) HHI.out (by omega) (by omega) ?_;intro v' w7 hr xE);have HRR:=ak (HR.out _ _ hr);have ny:=hbel.trans (xE.mono hbel.size);clear hr xE h8 hbel;go_wp2;go_ret2;exact ⟨_,_,rfl,HRR.out,ny⟩
def lW (f2:Nat->Int):Int:=sm 256 f2 32
def jJ (T:Int) (f2:Nat->Int):Int:=mulN T (lW f2)
def Bh (T:Int) (f2:Nat->Int):Nat->Int:=lN (jJ T f2) (lW f2) (mulN T 9)
def mJ (T:Int) (n:Nat) (f2:Nat->Int):Bool:=jS (Bh T f2) qR 0 qR n (fun i=> f2 (32+i))
def Bj (T:Int) (f2:Nat->Int):Nat->Int:=fT (Bh T f2) qR 1 (fun i=> f2 (32+i))
def YT (T:Int) (n:Nat) (f2:Nat->Int) (w:World) (u:Value) (er:Int):Prop:=(jJ T f2=0->u=.slice none 0 0/\er=21)/\(jJ T f2≠0->(mJ T n f2=false->u=.slice none 0 0/\er=20)/\(mJ T n f2=true->er=0/\Rd .u8 w u n (Bj T f2)))
theorem Av (T:Int) (v:Value) (n:Nat) (f:Nat->Int) (w:World) (hv:Rd .u8 w v n f) (hn:n<48):
  Calls Tryz.prog 75 #[.agg (arr .u8 32 (dg 256 T)),v] w fun e w'=> e=.returned (.tuple #[.slice none 0 0,.int .i64 10])/\Below w.heap.size w w':=by
 obtain ⟨ta,tc,ev,_⟩:=id hv;subst ev;have h48:(n:Int)<48:=by omega
 clear hv hn
 go_enter Tryz.func75,Tryz.ntmps75
 go_wp2;go_ret2;exact ⟨rfl,(bA _ _).alloc (aP _) _⟩
theorem Fj (T:Int) (v:Value) (n N:Nat) (hN:N=n+48) (f:Nat->Int) (w:World) (hv:Rd .u8 w v N f) (hn:n<=400) (hf:∀i,i<N->0<=f i/\f i<256):
  Calls Tryz.prog 75 #[.agg (arr .u8 32 (dg 256 T)),v] w fun e w'=> ∃u er,e=.returned (.tuple #[u,.int .i64 er])/\YT T n f w' u er/\Below w.heap.size w w':=by
 have Kk:=ak (fun w=> uS T w);have vO:Hid (∀w,Calls Tryz.prog 118 #[.agg (arr .u8 32 (dg 256 T)),.agg (arr .u8 32 (dg 256 (lW f))),.agg (arr .u8 32 (dg 256 (lW f))),.agg (arr .u8 32 (dg 256 (mulN T 9)))] w fun e w'=> e=.returned (.tuple #[.agg (arr .u8 32 (kE (jJ T f) (lW f) (mulN T 9))),.int .i64 (oK (jJ T f))])/\Below w.heap.size w w'):=fun w=> Dn T (lW f) (lW f) (mulN T 9) w
 have Kl:Hid (∀w u,Rd .u8 w u (n+16) (fun i=> f (32+i))->Calls Tryz.prog 78 #[.agg (arr .u8 32 (Bh T f)),.agg (arr .u8 12 (fun _=> 0)),.slice none 0 0,u] w fun e w'=> ∃v,e=.returned v/\Rf (mJ T n f) w' v n (Bj T f)/\Below w.heap.size w w'):=fun w u h=>
  Du _ qR (Fq _ _ _) (fun i _=> by unfold qR;decide) _ u 0 n qR _ w (Rd.nil _ _ _) h (fun i hi=> absurd hi (by omega)) (fun i hi=> hf (32+i) (by omega)) (by decide) (by omega)
 have HB0:=ak (fun (a:Act) w=> Dp (a:=a) w);have HFQ:Hid (arr .u8 32 f=arr .u8 32 (dg 256 (lW f))):=dY fun i hi=> (qh (by decide) (fun i hi=> hf i (by omega)) i hi).symm;have vK:Hid (∀w u er,((jJ T f=0->u=.slice none 0 0/\er=21)/\(jJ T f≠0->(mJ T n f=false->u=.slice none 0 0/\er=20)/\(mJ T n f=true->er=0/\Rd .u8 w u n (Bj T f))))->YT T n f w u er):=fun w u er h=> h;have HV0:=ak hv;obtain ⟨ta,tc,ev,hc1,hc2,_,_⟩:=id hv;subst ev;have G1:=ak (Rd.head (P:=Tryz.prog) fQ iW ta N tc 32 (by omega) hc1);obtain ⟨a2,g1,g2,g3⟩:=Rd.cut (P:=Tryz.prog) fQ iW ta N tc 32 N (by omega) (aP _) hc1;have G2:=ak g2;have WG:Hid (∀w,Rd .u8 w (.slice ta N tc) N f->Rd .u8 w (.slice a2 (N - 32) (tc - 32)) (n+16) (fun i=> f (32+i))):=fun w h=> by have h2:=(g3 w f h).2;rwa [show N - 32=n+16 by omega] at h2 ⊢
 obtain ⟨b1,o1,q1,l1,c1⟩:=(G1.out.2 _ _ hv).wC (by decide);subst q1;have sW:=ak c1;have h48:¬ (N:Int)<48:=by omega
 have hbig:¬ (1048576:Int)<(N:Int):=by omega
 have DC:Hid (kE (jJ T f) (lW f) (mulN T 9)=if jJ T f=0 then (fun _=> 0) else Bh T f):=rfl;have QV:Hid (oK (jJ T f)=if jJ T f=0 then 21 else 0):=rfl;obtain ⟨KR,NV⟩:∃x,x=kE (jJ T f) (lW f) (mulN T 9):=⟨_,rfl⟩
 obtain ⟨er,her⟩:∃x,x=oK (jJ T f):=⟨_,rfl⟩
 rw [<-NV] at vO DC;rw [<-her] at vO QV;obtain ⟨ok,hok⟩:∃x,x=mJ T n f:=⟨_,rfl⟩
 rw [<-hok] at Kl vK;obtain ⟨H,hH⟩:∃x,x=Bj T f:=⟨_,rfl⟩
 rw [<-hH] at Kl vK;obtain ⟨K,hK⟩:∃x,x=Bh T f:=⟨_,rfl⟩
 rw [<-hK] at Kl DC;obtain ⟨X,hX⟩:∃x,x=jJ T f:=⟨_,rfl⟩
 rw [<-hX] at DC QV vK;obtain ⟨FI,NW⟩:∃x,x=lW f:=⟨_,rfl⟩
 rw [<-NW] at vO HFQ;obtain ⟨PT,hPT⟩:∃x,x=mulN T 9:=⟨_,rfl⟩
 rw [<-hPT] at Kk vO;clear hN NV her hok hH hK hX NW hPT g1 g2 g3 c1 hv hf hc1 hc2 hn
 go_enter Tryz.func75,Tryz.ntmps75
 go_upto_region 1 with (fail);refine aC (fun w1=> aD .u8 w1 w.heap.size 32 (dg 256 T)/\Below w.heap.size w w1) ⟨bg rfl rfl,(bA _ _).alloc (aP _) _⟩ ?_;rintro w1 ⟨h2,hbel⟩;have l1':b1<w1.heap.size:=tN l1 hbel.size;have Wq:Hid (∀i,i<32->w1.cell? ⟨b1,o1+i,none⟩=some (.int .u8 (f i))):=fun i hi=> (hbel.cell (p:=⟨b1,o1+i,none⟩) l1).trans (sW.out i hi);clear sW l1;go_upto_region 5 with (fail)
 refine bT (n:=40) (by kernel_rfl) (by kernel_rfl) (by kernel_rfl) rfl
  (mU [(5,4)]) (iO [(5,4)]) (fun _=> arr .u8 32 (fun _=> 0)) (fun _=> (arr .u8 32 (dg 256 FI))) (fun _=> 22) (fun _=> 6)
  (fun ii vv _=> (match ii with | 0=> vv=.slice (some ⟨b1,o1,none⟩) N tc | 1=> vv=.slice (some ⟨b1,o1,none⟩) 32 tc | 2=> vv=.pointer (some ⟨b1,o1,none⟩) | 3=> vv=.agg (arr .u8 32 (dg 256 FI)) | _=> True)) (fun _ _=> True) (fun _ _ _=> trivial) (fun _ _ _ _ _ _ _=> trivial) (fun _ _ _ _ h _=> h)
  (jL rfl) (iC rfl) ?_ ?_ ?_ ?_
 ·refine dD ?_;refine ⟨?_,?_,?_,?_,(fun h=> by cases h),(fun _ h=> by cases h),trivial⟩
  ·intro _ _ a w2 hB hF hd;exact aG <| bJ rfl (hF.same 1 rfl)
  ·intro _ _ a w2 hB hF hd;exact aG <| aO (aZ rfl (hd 0 _ rfl rfl rfl (aj rfl)) (by simp only [Option.map_some,Option.map_none];exact G1.out.1 _)) rfl
  ·intro _ _ a w2 hB hF hd;exact aG <| aO (iD rfl (hd 1 _ rfl rfl rfl (aj rfl)) dB (by decide)) rfl
  ·intro _ _ a w2 hB hF hd;exact aG <| aO (gI rfl (hd 2 _ rfl rfl rfl (aj rfl)) dB bZ (fun i hi=> (hB.cell (p:=⟨b1,o1+i,none⟩) l1').trans (Wq.out i hi))) (congrArg Value.agg HFQ.out)
 ·refine dD ?_;refine ⟨(fun h=> by cases h),(fun h=> by cases h),(fun h=> by cases h),(fun h=> by cases h),?_,(fun h=> by cases h),trivial⟩
  ·exact fun _=> ⟨rfl,rfl,fun a w2 K h=> bE rfl rfl Tryz.zeroValue22 (by simp) h⟩
 ·refine dD ?_;refine ⟨(fun _ h=> by cases h),(fun _ h=> by cases h),(fun _ h=> by cases h),(fun _ h=> by cases h),(fun _ h=> by cases h),?_,trivial⟩
  ·intro p hp;obtain rfl:4=p:=iV hp;exact ⟨rfl,rfl,⟨_,rfl⟩,aj rfl,fun a w2 b K hB hF hd hx hb h=> cK rfl rfl bZ hx (hd 3 _ rfl rfl rfl (aj rfl)) hb h⟩
 ·intro a w2 blk hB hF hS hv hfin fG;obtain ⟨v4,v4l,v4u⟩:=hv 4 _ rfl rfl;have ha:=aK rfl rfl hF [_,_,_,_,_,undef] rfl ⟨hS 0 _ rfl rfl rfl,hS 1 _ rfl rfl rfl,hS 2 _ rfl rfl rfl,hS 3 _ rfl rfl rfl,v4,trivial,trivial⟩;have f4:=hfin 5 _ 4 rfl rfl;simp only [puts,Act.put,dS,dU,dV] at ha;subst ha;have V4:aD .u8 w2 (blk 4) 32 (dg 256 FI):=⟨_,f4⟩
  clear hS hv hfin fG hF v4 f4;replace h2:=h2.kept hB;replace hbel:=hbel.trans (hB.mono hbel.size);obtain ⟨x6,e6⟩:∃x,x=blk 4:=⟨_,rfl⟩
  rw [<-e6] at V4 ⊢;have h6:=V4;clear e6 hB V4 v4l v4u l1' Wq;go_upto_region 6 with (fail)
  refine bT (n:=40) (by kernel_rfl) (by kernel_rfl) (by kernel_rfl) rfl
   (mU [(10,9)]) (iO [(10,9)]) (fun _=> arr .u8 32 (fun _=> 0)) (fun _=> (arr .u8 32 (KR))) (fun _=> 22) (fun _=> 7)
   (fun ii vv _=> (match ii with | 0 | 3=> vv=.agg (arr .u8 32 (dg 256 T)) | 1 | 2=> vv=.agg (arr .u8 32 (dg 256 FI)) | 4=> vv=.agg (arr .u8 32 (dg 256 PT)) | 5 | 6=> vv=.tuple #[.agg (arr .u8 32 (KR)),.int .i64 (er)] | 7=> vv=.agg (arr .u8 32 (KR)) | 8 | 11=> vv=.int .i64 (er) | _=> True)) (fun _ _=> True) (fun _ _ _=> trivial) (fun _ _ _ _ _ _ _=> trivial) (fun _ _ _ _ h _=> h)
   (jL rfl) (iC rfl) ?_ ?_ ?_ ?_
  ·refine dD ?_;refine ⟨?_,?_,?_,?_,?_,?_,?_,?_,?_,(fun h=> by cases h),(fun _ h=> by cases h),?_,trivial⟩
   ·intro _ _ a w2 hB hF hd;exact aG <| aO (aB rfl dB rfl bZ (hF.same 2 rfl) (h2.below hB h2.lt)) rfl
   ·intro _ _ a w2 hB hF hd;exact aG <| aO (aB rfl dB rfl bZ (hF.same 6 rfl) (h6.below hB h6.lt)) rfl
   ·intro _ _ a w2 hB hF hd;exact aG <| aO (aB rfl dB rfl bZ (hF.same 6 rfl) (h6.below hB h6.lt)) rfl
   ·intro _ _ a w2 hB hF hd;exact aG <| aO (aB rfl dB rfl bZ (hF.same 2 rfl) (h2.below hB h2.lt)) rfl
   ·intro _ _ a w2 hB hF hd;refine aG <| aI _ _ _ rfl Tryz.call90 _ (args1 (hd 3 _ rfl rfl rfl (aj rfl))) (by simp) ((Kk.out w2).mono ?_);rintro e w3 ⟨rfl,hb⟩;exact ⟨_,rfl,rfl,hb⟩
   ·intro _ _ a w2 hB hF hd;refine aG <| aI _ _ _ rfl Tryz.call118 _ (lG (hd 0 _ rfl rfl rfl (aj rfl)) (hd 1 _ rfl rfl rfl (aj rfl)) (hd 2 _ rfl rfl rfl (aj rfl)) (hd 4 _ rfl rfl rfl (aj rfl))) (by simp) ((vO.out w2).mono ?_);rintro e w3 ⟨rfl,hb⟩;exact ⟨_,rfl,rfl,hb⟩
   ·intro _ _ a w2 hB hF hd;exact aG <| bJ rfl (hd 5 _ rfl rfl rfl (aj rfl))
   ·intro _ _ a w2 hB hF hd;exact aG <| aO (aU rfl (hd 6 _ rfl rfl rfl (aj rfl)) rfl) rfl
   ·intro _ _ a w2 hB hF hd;exact aG <| aO (aU rfl (hd 6 _ rfl rfl rfl (aj rfl)) rfl) rfl
   ·intro _ _ a w2 hB hF hd;exact aG <| lS rfl (hd 8 _ rfl rfl rfl (aj rfl))
  ·refine dD ?_;refine ⟨(fun h=> by cases h),(fun h=> by cases h),(fun h=> by cases h),(fun h=> by cases h),(fun h=> by cases h),(fun h=> by cases h),(fun h=> by cases h),(fun h=> by cases h),(fun h=> by cases h),?_,(fun h=> by cases h),(fun h=> by cases h),trivial⟩
   ·exact fun _=> ⟨rfl,rfl,fun a w2 K h=> bE rfl rfl Tryz.zeroValue22 (by simp) h⟩
  ·refine dD ?_;refine ⟨(fun _ h=> by cases h),(fun _ h=> by cases h),(fun _ h=> by cases h),(fun _ h=> by cases h),(fun _ h=> by cases h),(fun _ h=> by cases h),(fun _ h=> by cases h),(fun _ h=> by cases h),(fun _ h=> by cases h),(fun _ h=> by cases h),?_,(fun _ h=> by cases h),trivial⟩
   ·intro p hp;obtain rfl:9=p:=iV hp;exact ⟨rfl,rfl,⟨_,rfl⟩,aj rfl,fun a w2 b K hB hF hd hx hb h=> cK rfl rfl bZ hx (hd 7 _ rfl rfl rfl (aj rfl)) hb h⟩
  ·intro a w3 blk hB hF hS hv hfin fG;obtain ⟨v9,v9l,v9u⟩:=hv 9 _ rfl rfl;have ha:=aK rfl rfl hF [_,_,_,_,_,_,_,_,_,_,undef,_] rfl ⟨hS 0 _ rfl rfl rfl,hS 1 _ rfl rfl rfl,hS 2 _ rfl rfl rfl,hS 3 _ rfl rfl rfl,hS 4 _ rfl rfl rfl,hS 5 _ rfl rfl rfl,hS 6 _ rfl rfl rfl,hS 7 _ rfl rfl rfl,hS 8 _ rfl rfl rfl,v9,trivial,hS 11 _ rfl rfl rfl,trivial⟩;have f9:=hfin 10 _ 9 rfl rfl;simp only [puts,Act.put,dS,dU,dV] at ha;subst ha;have V9:aD .u8 w3 (blk 9) 32 (KR):=⟨_,f9⟩
   clear hS hv hfin fG hF v9 f9;replace hbel:=hbel.trans (hB.mono hbel.size);obtain ⟨x7,e7⟩:∃x,x=blk 9:=⟨_,rfl⟩
   rw [<-e7] at V9 ⊢;have h7:=V9;clear e7 hB V9 v9l v9u h2 h6;by_cases hX:X=0
   case pos=>
    obtain rfl:er=21:=by rw [QV.out,if_pos hX]
    have HR:=ak (vK.out w3 (.slice none 0 0) 21 ⟨fun _=> ⟨rfl,rfl⟩,fun h=> absurd hX h⟩);clear hX DC QV vK;go_wp2;go_ret2;exact ⟨_,_,rfl,HR.out,hbel⟩
   case neg=>
    obtain rfl:er=0:=by rw [QV.out,if_neg hX]
    obtain rfl:KR=K:=by rw [DC.out,if_neg hX]
    have HR1:Hid (ok=false->∀w,YT T n f w (.slice none 0 0) 20):=fun ho w=> vK.out w _ _ ⟨fun h=> absurd h hX,fun _=> ⟨fun _=> ⟨rfl,rfl⟩,fun h=> (by rw [ho] at h;cases h)⟩⟩;have HR2:Hid (ok=true->∀w u,Rd .u8 w u n H->YT T n f w u 0):=fun ho w u hu=> vK.out w _ _ ⟨fun h=> absurd h hX,fun _=> ⟨fun h=> (by rw [ho] at h;cases h),fun _=> ⟨rfl,hu⟩⟩⟩;clear hX DC QV vK;go_upto_region 9 with (fail);cases ok
    case false=>
     have oz:Hid (∀w u,Rd .u8 w u (n+16) (fun i=> f (32+i))->Calls Tryz.prog 78 #[.agg (arr .u8 32 KR),.agg (arr .u8 12 (fun _=> 0)),.slice none 0 0,u] w fun e w'=> e=.returned (.tuple #[.slice none 0 0,.int .i64 20])/\Below w.heap.size w w'):=fun w u h=> by
      refine (Kl.out w u h).mono ?_;rintro e w' ⟨v,rfl,ho,hb⟩;rw [ho.2 rfl];exact ⟨rfl,hb⟩
     refine aT (n:=40) (by kernel_rfl) (by kernel_rfl) (by kernel_rfl) rfl
      (fun ii vv _=> (match ii with | 0=> vv=.agg (arr .u8 32 (KR)) | 1=> vv=.agg (arr .u8 12 (fun _=> 0)) | 2=> vv=.slice (some ⟨b1,o1,none⟩) N tc | 3=> vv=.slice a2 (N - 32) (tc - 32) | 4=> vv=.tuple #[.slice none 0 0,.int .i64 (20)] | 5 | 7=> vv=.slice none 0 0 | 6 | 8=> vv=.int .i64 (20) | _=> True))
      (fun w w'=> Below w.heap.size w w') (fun _ _ h=> h) (fun _ _ _ _ h _=> h) ?_ ?_
     ·refine dD ?_;refine ⟨?_,?_,?_,?_,?_,?_,?_,?_,?_,trivial⟩
      ·intro a w2 hB hF hd;exact aG <| aO (aB rfl dB rfl bZ (hF.same 7 rfl) (h7.below hB h7.lt)) rfl
      ·intro a w2 hB hF hd;exact aG <| aO (fF rfl (HB0.out _ _)) rfl
      ·intro a w2 hB hF hd;exact aG <| bJ rfl (hF.same 1 rfl)
      ·intro a w2 hB hF hd;exact aG <| aO (aZ rfl (hd 2 _ rfl (aj rfl)) (by simp only [Option.map_some,Option.map_none];exact G2.out _)) rfl
      ·intro a w2 hB hF hd;refine aG <| aI _ _ _ rfl Tryz.call78 _ (lG (hd 0 _ rfl (aj rfl)) (hd 1 _ rfl (aj rfl)) rfl (hd 3 _ rfl (aj rfl))) (by simp) ((oz.out w2 _ (WG.out _ ((HV0.out.below hbel).below hB))).mono ?_);rintro e w3 ⟨rfl,hb⟩;exact ⟨_,rfl,rfl,hb⟩
      ·intro a w2 hB hF hd;exact aG <| aO (aU rfl (hd 4 _ rfl (aj rfl)) rfl) rfl
      ·intro a w2 hB hF hd;exact aG <| aO (aU rfl (hd 4 _ rfl (aj rfl)) rfl) rfl
      ·intro a w2 hB hF hd;exact aG <| lS rfl (hd 5 _ rfl (aj rfl))
      ·intro a w2 hB hF hd;exact aG <| lS rfl (hd 6 _ rfl (aj rfl))
     ·intro a w4 hB hF hS;have ha:=aK rfl rfl hF [_,_,_,_,_,_,_,_,_] rfl ⟨hS 0 _ rfl,hS 1 _ rfl,hS 2 _ rfl,hS 3 _ rfl,hS 4 _ rfl,hS 5 _ rfl,hS 6 _ rfl,hS 7 _ rfl,hS 8 _ rfl,trivial⟩;simp only [puts,Act.put,dS,dU,dV] at ha;subst ha;clear hS hF;have hb4:=hbel.trans (hB.mono hbel.size);go_wp2;go_ret2;exact ⟨_,_,rfl,HR1.out (by trivial) _,hb4⟩
    case true=>
     have oz:Hid (∀w u,Rd .u8 w u (n+16) (fun i=> f (32+i))->Calls Tryz.prog 78 #[.agg (arr .u8 32 KR),.agg (arr .u8 12 (fun _=> 0)),.slice none 0 0,u] w fun e w'=> ∃v,e=.returned v/\jK w' v n H/\Below w.heap.size w w'):=fun w u h=> by
      refine (Kl.out w u h).mono ?_;rintro e w' ⟨v,rfl,ho,hb⟩;exact ⟨v,rfl,ho.1 rfl,hb⟩
     refine aT (n:=40) (by kernel_rfl) (by kernel_rfl) (by kernel_rfl) rfl
      (fun ii vv ww=> (match ii with | 0=> vv=.agg (arr .u8 32 (KR)) | 1=> vv=.agg (arr .u8 12 (fun _=> 0)) | 2=> vv=.slice (some ⟨b1,o1,none⟩) N tc | 3=> vv=.slice a2 (N - 32) (tc - 32) | 6 | 8=> vv=.int .i64 (0) | _=> True)/\(ii=4->jK ww vv n (H))/\(ii=5->Rd .u8 ww vv n (H))/\(ii=7->Rd .u8 ww vv n (H)))
      (fun w w'=> Below w.heap.size w w') (fun _ _ h=> h) (fun i v w w' h hE=> ⟨h.1,fun e=> jK.below (h.2.1 e) hE,fun e=> Rd.below (h.2.2.1 e) hE,fun e=> Rd.below (h.2.2.2 e) hE⟩) ?_ ?_
     ·refine dD ?_;refine ⟨?_,?_,?_,?_,?_,?_,?_,?_,?_,trivial⟩
      ·intro a w2 hB hF hd;exact aG <| aO (aB rfl dB rfl bZ (hF.same 7 rfl) (h7.below hB h7.lt)) ⟨rfl,aF,aF,aF⟩
      ·intro a w2 hB hF hd;exact aG <| aO (fF rfl (HB0.out _ _)) ⟨rfl,aF,aF,aF⟩
      ·intro a w2 hB hF hd;exact aG <| bJ rfl ⟨(hF.same 1 rfl),aF,aF,aF⟩
      ·intro a w2 hB hF hd;exact aG <| aO (aZ rfl ((hd 2 _ rfl (aj rfl)).1) (by simp only [Option.map_some,Option.map_none];exact G2.out _)) ⟨rfl,aF,aF,aF⟩
      ·intro a w2 hB hF hd;refine aG <| aI _ _ _ rfl Tryz.call78 _ (lG ((hd 0 _ rfl (aj rfl)).1) ((hd 1 _ rfl (aj rfl)).1) rfl ((hd 3 _ rfl (aj rfl)).1)) (by simp) ((oz.out w2 _ (WG.out _ ((HV0.out.below hbel).below hB))).mono ?_);rintro e w3 ⟨u,rfl,hr,hb⟩;exact ⟨u,rfl,⟨trivial,fun _=> hr,aF,aF⟩,hb⟩
      ·intro a w2 hB hF hd;rw [if_pos (bG rfl)];obtain ⟨u_,wJ,CZ⟩:=((hd 4 _ rfl (aj rfl)).2.1 rfl)
       exact aO (aU rfl wJ rfl) ⟨trivial,aF,fun _=> (CZ),aF⟩
      ·intro a w2 hB hF hd;rw [if_pos (bG rfl)];obtain ⟨u_,wJ,CZ⟩:=((hd 4 _ rfl (aj rfl)).2.1 rfl)
       exact aO (aU rfl wJ rfl) ⟨rfl,aF,aF,aF⟩
      ·intro a w2 hB hF hd;exact aG <| lS rfl ⟨trivial,aF,aF,fun _=> ((hd 5 _ rfl (aj rfl)).2.2.1 rfl)⟩
      ·intro a w2 hB hF hd;exact aG <| lS rfl ⟨((hd 6 _ rfl (aj rfl)).1),aF,aF,aF⟩
     ·intro a w4 hB hF hS;obtain ⟨x37,abv⟩:∃x,x=a.tmps.getD 37 undef:=⟨_,rfl⟩
      have P37:jK w4 x37 n (H):=by rw [abv];exact (hS 4 _ rfl).2.1 rfl
      obtain ⟨x38,hx38⟩:∃x,x=a.tmps.getD 38 undef:=⟨_,rfl⟩
      have P38:Rd .u8 w4 x38 n (H):=by rw [hx38];exact (hS 5 _ rfl).2.2.1 rfl
      obtain ⟨x4,hx4⟩:∃x,x=a.tmps.getD 4 undef:=⟨_,rfl⟩
      have P4:Rd .u8 w4 x4 n (H):=by rw [hx4];exact (hS 7 _ rfl).2.2.2 rfl
      have ha:=aK rfl rfl hF [_,_,_,_,x37,x38,_,x4,_] rfl ⟨(hS 0 _ rfl).1,(hS 1 _ rfl).1,(hS 2 _ rfl).1,(hS 3 _ rfl).1,abv.symm,hx38.symm,(hS 6 _ rfl).1,hx4.symm,(hS 8 _ rfl).1,trivial⟩;simp only [puts,Act.put,dS,dU,dV] at ha;subst ha;clear abv hx38 hx4;clear hS hF;have hb4:=hbel.trans (hB.mono hbel.size);have HR:=ak (HR2.out (by trivial) _ _ P4);clear P4 P37 P38;go_wp2;go_ret2;exact ⟨_,_,rfl,HR.out,hb4⟩
theorem KO (w:World):Calls Tryz.prog 69 #[] w fun e w'=> e=.returned (.agg (arr .u8 32 (dg 256 9)))/\Below w.heap.size w w':=by
 go_enter Tryz.func69,Tryz.ntmps69
 go_upto_region 2 with (fail);refine aC (fun w1=> aD .u8 w1 w.heap.size 32 (fun _=> 0)/\aD .u8 w1 (w.heap.size+1) 32 (fun _=> 0)/\Below w.heap.size w w1) ⟨.alloc (bg rfl (by rfl)) _,bg (by first | omega | (simp<;> omega)) (by rfl),((bA _ _).alloc (aP _) _).alloc (by first | omega | (simp<;> omega)) _⟩ ?_;rintro w1 ⟨h0,h1,hbel⟩;have e0:=h1.cell 0 (by decide);have f0:=h1.free 0;go_upto_region 3 with (fail);refine aC (fun w2=> aD .u8 w2 w.heap.size 32 (fun _=> 0)/\aD .u8 w2 (w.heap.size+1) 32 (dg 256 9)/\Below w.heap.size w w2) ⟨aD.other (p:=⟨w.heap.size+1,0,none⟩) h0 (show w.heap.size≠w.heap.size+1 by omega) _,(h1.set 0 9).congr XL,hbel.setCell (p:=⟨w.heap.size+1,0,none⟩) (show w.heap.size<=w.heap.size+1 by omega) _⟩ ?_;clear h0 h1 hbel e0 f0;rintro w2 ⟨h0,h1,hbel⟩
 try simp only [Act.put,dS,dU,dV]
 go_wp2_with (first
  | (refine aM rfl 22 _ rfl .u8 (w.heap.size+1) 32 (dg 256 9) 5 dB bZ rfl h1 ?_)
  | (refine aH rfl 22 _ _ rfl .u8 w.heap.size 32 (fun _=> 0) (dg 256 9) bZ rfl rfl h0 ?_))
 exact bodyPost_ret (aV rfl _ _ .u8 w.heap.size 32 _ 5 rfl (h0.setRow _ _) dB bZ) rfl ⟨rfl,ay hbel (aP _) _⟩
theorem pE (S:Int) (w:World):Calls Tryz.prog 15 #[.agg (arr .u8 32 (dg 256 S))] w fun e w'=> e=.returned (.agg (arr .u8 32 (dg 256 (mulN S 9))))/\Below w.heap.size w w':=by
 have WI:=ak (fun w=> vT S 9 w);have HBA:=ak (fun w=> KO w);obtain ⟨M,hM⟩:∃x,x=mulN S 9:=⟨_,rfl⟩
 rw [show iq (dx S) (9 % 2 ^ 255) % Pr=M from hM.symm] at WI;rw [<-hM];clear hM;obtain ⟨D9,hD⟩:∃x,x=dg 256 9:=⟨_,rfl⟩
 rw [<-hD] at WI HBA;clear hD
 go_enter Tryz.func15,Tryz.ntmps15
 go_upto_region 1 with (fail);refine aC (fun w1=> aD .u8 w1 w.heap.size 32 (dg 256 S)/\aD .u8 w1 (w.heap.size+1) 32 (fun _=> 0)/\Below w.heap.size w w1) ⟨.alloc (bg rfl rfl) _,bg (by first | omega | (simp<;> omega)) (by rfl),((bA _ _).alloc (aP _) _).alloc (by first | omega | (simp<;> omega)) _⟩ ?_;rintro w1 ⟨h1,h2,hbel⟩
 refine iF (n:=6) 3 rfl (by decide) (by kernel_rfl) (by kernel_rfl) (by kernel_rfl) (by kernel_rfl) rfl
  (fun ii vv _=> (match ii with | 0=> vv=.agg (arr .u8 32 (dg 256 S)) | 1=> vv=.agg (arr .u8 32 (D9)) | 2=> vv=.agg (arr .u8 32 (dg 256 M)) | _=> True))
  (fun w w'=> Below w.heap.size w w') (fun _ _ h=> h) (fun _ _ _ _ h _=> h) rfl ?_ ?_
 ·refine dD ?_;refine ⟨?_,?_,?_,(fun h=> absurd rfl h),trivial⟩
  ·intro _ a w2 hB hF hd;exact aG <| aO (aB rfl dB rfl bZ (hF.same 1 rfl) (h1.below hB h1.lt)) rfl
  ·intro _ a w2 hB hF hd;refine aG <| aI _ _ _ rfl Tryz.call69 _ JC (by simp) ((HBA.out w2).mono ?_);rintro e w3 ⟨rfl,hb⟩;exact ⟨_,rfl,rfl,hb⟩
  ·intro _ a w2 hB hF hd;refine aG <| aI _ _ _ rfl Tryz.call68 _ (args2 (hd 0 _ rfl (aj rfl)) (hd 1 _ rfl (aj rfl))) (by simp) ((WI.out w2).mono ?_);rintro e w3 ⟨rfl,hb⟩;exact ⟨_,rfl,rfl,hb⟩
 ·intro a w2 hB hF hS;have ha:=aK rfl rfl hF [_,_,_,undef] rfl ⟨hS 0 _ rfl (by decide),hS 1 _ rfl (by decide),hS 2 _ rfl (by decide),trivial,trivial⟩;simp only [puts,Act.put,dS,dU,dV] at ha;subst ha;clear hS hF;replace h2:=h2.kept hB;replace hbel:=hbel.trans (hB.mono hbel.size);clear hB h1;refine bB 22 _ _ rfl .u8 (w.heap.size+1) 32 (fun _=> 0) (dg 256 M) bZ rfl rfl h2 ?_;go_wp2;exact bodyPost_ret (aV rfl _ _ .u8 (w.heap.size+1) 32 _ 5 rfl (h2.setRow 32 (dg 256 M)) dB bZ) rfl ⟨rfl,ay hbel (by omega) _⟩
theorem PE (S U:Int):jq 32 (dg 256 (mulN S U)) (fun _=> 0)=decide (mulN S U=0):=by
 have h:=CP S U;have e:∀i,i<32->dg 256 0 i=(fun _=> 0:Nat->Int) i:=fun i _=> by show (0:Int) / 256 ^ i % 256=0;rw [Int.zero_ediv];rfl
 rw [<-h];unfold jq;exact decide_eq_decide.2 ⟨fun h i hi=> (h i hi).trans (e i hi).symm,fun h i hi=> (h i hi).trans (e i hi)⟩
theorem kH (f:Nat->Int) (hf:∀i,i<32->0<=f i/\f i<256) (N:Nat) (w:World) (hN:N<=w.heap.size):
  Calls Tryz.prog 14 #[.agg (arr .u8 32 f)] w fun e w'=> ∃v,e=.returned v/\Go.aQ.Own .u8 5 N w' v 32 f/\Below w.heap.size w w':=by
 refine (Er f hf w).mono ?_;rintro e w' ⟨v,rfl,h,hb⟩;exact ⟨v,rfl,Go.aQ.Own.mono h (by omega),hb⟩
theorem Cm (S O F P:Int) (w:World):Calls Tryz.prog 71 #[.agg (arr .u8 32 (dg 256 (mulN S O))),.agg (arr .u8 32 (dg 256 F)),.agg (arr .u8 32 (dg 256 P))] w fun e w'=>
  e=.returned (.tuple #[.agg (arr .u8 32 (kE (mulN S O) F P)),.bool (!decide (mulN S O=0))])/\Below w.heap.size w w':=by
 have HDR:Hid (∀w v t,Rd .u8 w v 32 (dg 256 (mulN S O))->qm w t 2 JA (MI F P)->Calls Tryz.prog 38 #[v,.string MH,t] w fun e w'=> e=.returned (.tuple #[.agg (arr .u8 32 (lN (mulN S O) F P)),.int .i64 0])/\Below w.heap.size w w'):=fun w v t hv ht=>
  Cq v 32 (dg 256 (mulN S O)) MH t 2 JA (MI F P) w hv (by decide) (by decide) (fun i _=> aN (by decide) _ _) (by decide) ht (by decide) Og (Vy F P)
 have HSM:=ak (PE S O);have HK:Hid (kE (mulN S O) F P=if mulN S O=0 then (fun _=> 0) else lN (mulN S O) F P):=rfl;obtain ⟨X,hX⟩:∃X,X=mulN S O:=⟨_,rfl⟩
 rw [<-hX] at HDR HSM HK ⊢;obtain ⟨ok,hok⟩:∃b,b= !decide (X=0):=⟨_,rfl⟩
 rw [<-hok];obtain ⟨KK,Wz⟩:∃K,K=lN X F P:=⟨_,rfl⟩
 rw [<-Wz] at HDR HK;obtain ⟨KR,NV⟩:∃K,K=kE X F P:=⟨_,rfl⟩
 rw [<-NV] at HK ⊢;clear hX Wz NV
 go_enter Tryz.func71,Tryz.ntmps71
 go_upto_region 2 with (fail)
 refine aC (fun w1=> aD .u8 w1 w.heap.size 32 (dg 256 X)/\aD .u8 w1 (w.heap.size+1) 32 (dg 256 F)/\aD .u8 w1 (w.heap.size+2) 32 (dg 256 P)/\aD .u8 w1 (w.heap.size+3) 32 (fun _=> 0)/\aD .u8 w1 (w.heap.size+4) 32 (fun _=> 0)/\Below w.heap.size w w1)
  ⟨.alloc (.alloc (.alloc (.alloc (bg rfl rfl) _) _) _) _,.alloc (.alloc (.alloc (bg (by first | omega | (simp<;> omega)) rfl) _) _) _,.alloc (.alloc (bg (by first | omega | (simp<;> omega)) rfl) _) _,.alloc (bg (by first | omega | (simp<;> omega)) (by rfl)) _,bg (by first | omega | (simp<;> omega)) (by rfl),(((((bA _ _).alloc (aP _) _).alloc (by first | omega | (simp<;> omega)) _).alloc (by first | omega | (simp<;> omega)) _).alloc (by first | omega | (simp<;> omega)) _).alloc (by first | omega | (simp<;> omega)) _⟩ ?_
 rintro w1 ⟨h3,h4,h5,h6,h8,hbel⟩;by_cases hX:X=0
 case pos=>
  obtain rfl:KR=fun _=> 0:=by rw [HK.out,if_pos hX]
  have HQ:Hid (jq 32 (dg 256 X) (fun _=> 0)=true):=by rw [HSM.out];exact decide_eq_true hX
  obtain rfl:ok=false:=by rw [hok,decide_eq_true hX];rfl
  clear hX HK HSM hok
  refine aT (n:=27) (by kernel_rfl) (by kernel_rfl) (by kernel_rfl) rfl
   (fun ii vv _=> (match ii with | 0=> vv=.agg (arr .u8 32 (dg 256 X)) | 1=> vv=.agg (arr .u8 32 (fun _=> 0)) | 2=> vv=.bool true | _=> True))
   (fun w w'=> Below w.heap.size w w') (fun _ _ h=> h) (fun _ _ _ _ h _=> h) ?_ ?_
  ·refine dD ?_;refine ⟨?_,?_,?_,trivial⟩
   ·intro a w2 hB hF hd;exact aG <| aO (aB rfl dB rfl bZ (hF.same 3 rfl) (h3.below hB h3.lt)) rfl
   ·intro a w2 hB hF hd;exact aG <| aO (aB rfl dB rfl bZ (hF.same 8 rfl) (h8.below hB h8.lt)) rfl
   ·intro a w2 hB hF hd;exact aG <| aO (nN true rfl (hd 0 _ rfl (aj rfl)) (hd 1 _ rfl (aj rfl)) dB (by kernel_rfl) (by kernel_rfl) (by kernel_rfl) (by kernel_rfl) (by kernel_rfl) HQ.out) rfl
  ·intro a w2 hB hF hS;have ha:=aK rfl rfl hF [_,_,_] rfl ⟨hS 0 _ rfl,hS 1 _ rfl,hS 2 _ rfl,trivial⟩;simp only [puts,Act.put,dS,dU,dV] at ha;subst ha;clear hS hF;replace h6:=h6.kept hB;replace h8:=h8.kept hB;replace hbel:=hbel.trans (hB.mono hbel.size);clear hB
   go_wp2_with (first
    | (refine aM rfl 22 _ rfl .u8 (w.heap.size+4) 32 (fun _=> 0) 5 dB bZ rfl h8 ?_)
    | (refine aH rfl 22 _ _ rfl .u8 (w.heap.size+3) 32 (fun _=> 0) (fun _=> 0) bZ rfl rfl h6 ?_))
   exact bodyPost_ret (dM rfl _ _ .u8 (w.heap.size+3) 32 _ 5 rfl (h6.setRow 32 (fun _=> 0)) dB bZ) rfl ⟨rfl,ay hbel (by omega) _⟩
 case neg=>
  obtain rfl:KR=KK:=by rw [HK.out,if_neg hX]
  have HQ:Hid (jq 32 (dg 256 X) (fun _=> 0)=false):=by rw [HSM.out];exact decide_eq_false hX
  obtain rfl:ok=true:=by rw [hok,decide_eq_false hX];rfl
  clear hX HK HSM hok
  refine aT (n:=27) (by kernel_rfl) (by kernel_rfl) (by kernel_rfl) rfl
   (fun ii vv _=> (match ii with | 0=> vv=.agg (arr .u8 32 (dg 256 X)) | 1=> vv=.agg (arr .u8 32 (fun _=> 0)) | 2=> vv=.bool false | _=> True))
   (fun w w'=> Below w.heap.size w w') (fun _ _ h=> h) (fun _ _ _ _ h _=> h) ?_ ?_
  ·refine dD ?_;refine ⟨?_,?_,?_,trivial⟩
   ·intro a w2 hB hF hd;exact aG <| aO (aB rfl dB rfl bZ (hF.same 3 rfl) (h3.below hB h3.lt)) rfl
   ·intro a w2 hB hF hd;exact aG <| aO (aB rfl dB rfl bZ (hF.same 8 rfl) (h8.below hB h8.lt)) rfl
   ·intro a w2 hB hF hd;exact aG <| aO (nN false rfl (hd 0 _ rfl (aj rfl)) (hd 1 _ rfl (aj rfl)) dB (by kernel_rfl) (by kernel_rfl) (by kernel_rfl) (by kernel_rfl) (by kernel_rfl) HQ.out) rfl
  ·intro a w2 hB hF hS;have ha:=aK rfl rfl hF [_,_,_] rfl ⟨hS 0 _ rfl,hS 1 _ rfl,hS 2 _ rfl,trivial⟩;simp only [puts,Act.put,dS,dU,dV] at ha;subst ha;clear hS hF;replace h3:=h3.kept hB;replace h4:=h4.kept hB;replace h5:=h5.kept hB;replace h6:=h6.kept hB;replace hbel:=hbel.trans (hB.mono hbel.size);have hl6:=h6.lt;clear hB h8;obtain ⟨wq,hwq⟩:∃x,x=w2:=⟨_,rfl⟩
   rw [<-hwq] at h3 h4 h5 h6 hbel hl6 ⊢;clear hwq;go_upto_region 4 with (fail)
   refine bT (n:=27) (by kernel_rfl) (by kernel_rfl) (by kernel_rfl) rfl
    (mU [(12,11)]) (iO [(12,11)]) (fun _=> arr .u8 32 (fun _=> 0)) (fun _=> (arr .u8 32 (KR))) (fun _=> 22) (fun _=> 9)
    (fun ii vv ww=> (match ii with | 0=> vv=.agg (arr .u8 32 (dg 256 X)) | 2=> vv=.agg (arr .u8 32 (dg 256 F)) | 4=> vv=.agg (arr .u8 32 (dg 256 P)) | 7 | 8=> vv=.tuple #[.agg (arr .u8 32 (KR)),.int .i64 (0)] | 9=> vv=.agg (arr .u8 32 (KR)) | 10 | 13=> vv=.int .i64 (0) | _=> True)/\(ii=1->Go.aQ.Own .u8 5 wq.heap.size ww vv 32 (dg 256 X))/\(ii=3->Go.aQ.Own .u8 5 wq.heap.size ww vv 32 (dg 256 F))/\(ii=5->Go.aQ.Own .u8 5 wq.heap.size ww vv 32 (dg 256 P))/\(ii=6->MQ ww 5 wq.heap.size vv 23 (dg 256 F) (dg 256 P))) (vJ [22]) (fun _ _ h=> vJ.below h) (fun w b cs p _ _ hz=> vJ.row hz rfl) (fun i v w w' h hE=> ⟨h.1,fun e=> Go.aQ.Own.zW rfl (h.2.1 e) hE,fun e=> Go.aQ.Own.zW rfl (h.2.2.1 e) hE,fun e=> Go.aQ.Own.zW rfl (h.2.2.2.1 e) hE,fun e=> MQ.zW rfl rfl (h.2.2.2.2 e) hE⟩)
    (jL rfl) (iC rfl) ?_ ?_ ?_ ?_
   ·refine dD ?_;refine ⟨?_,?_,?_,?_,?_,?_,?_,?_,?_,?_,?_,(fun h=> by cases h),(fun _ h=> by cases h),?_,trivial⟩
    ·intro _ _ a w2 hB hF hd;exact aG <| aO (aB rfl dB rfl bZ (hF.same 3 rfl) (h3.below hB h3.lt)) ⟨rfl,aF,aF,aF,aF⟩
    ·intro _ _ a w2 hB hF hd;refine aG <| aI _ _ _ rfl Tryz.call14 _ (args1 ((hd 0 _ rfl rfl rfl (aj rfl)).1)) (by simp) ((kH (dg 256 X) (fun i _=> aN (by decide) _ _) wq.heap.size w2 hB.size).mono ?_);rintro e w3 ⟨u,rfl,hr,hb⟩;exact ⟨u,rfl,⟨trivial,fun _=> hr,aF,aF,aF⟩,hb⟩
    ·intro _ _ a w2 hB hF hd;exact aG <| aO (aB rfl dB rfl bZ (hF.same 4 rfl) (h4.below hB h4.lt)) ⟨rfl,aF,aF,aF,aF⟩
    ·intro _ _ a w2 hB hF hd;refine aG <| aI _ _ _ rfl Tryz.call14 _ (args1 ((hd 2 _ rfl rfl rfl (aj rfl)).1)) (by simp) ((kH (dg 256 F) (fun i _=> aN (by decide) _ _) wq.heap.size w2 hB.size).mono ?_);rintro e w3 ⟨u,rfl,hr,hb⟩;exact ⟨u,rfl,⟨trivial,aF,fun _=> hr,aF,aF⟩,hb⟩
    ·intro _ _ a w2 hB hF hd;exact aG <| aO (aB rfl dB rfl bZ (hF.same 5 rfl) (h5.below hB h5.lt)) ⟨rfl,aF,aF,aF,aF⟩
    ·intro _ _ a w2 hB hF hd;refine aG <| aI _ _ _ rfl Tryz.call14 _ (args1 ((hd 4 _ rfl rfl rfl (aj rfl)).1)) (by simp) ((kH (dg 256 P) (fun i _=> aN (by decide) _ _) wq.heap.size w2 hB.size).mono ?_);rintro e w3 ⟨u,rfl,hr,hb⟩;exact ⟨u,rfl,⟨trivial,aF,aF,fun _=> hr,aF⟩,hb⟩
    ·intro _ _ a w2 hB hF hd;rw [if_pos (bG rfl)];have p19:=((hd 3 _ rfl rfl rfl (aj rfl)).2.2.1 rfl)
     have p21:=((hd 5 _ rfl rfl rfl (aj rfl)).2.2.2.1 rfl)
     exact dW 55 23 2 _ [a.eval (Operand.tmp 19),a.eval (Operand.tmp 21)] rfl Tryz.underlying55 (by kernel_rfl) (by kernel_rfl) rfl (by decide) (by decide) (by intro v hv;simp only [List.mem_cons,List.not_mem_nil,or_false] at hv;rcases hv with rfl | rfl;exact p19.rd.wO;exact p21.rd.wO) (by simp only [qy,List.map_cons,List.map_nil];rfl) (by simp) ⟨trivial,aF,aF,aF,fun _=> (⟨_,_,_,rfl,heap_alloc_new _ _,Go.aQ.Own.alloc p19 _,Go.aQ.Own.alloc p21 _⟩)⟩
    ·intro _ _ a w2 hB hF hd;refine aG <| aI _ _ _ rfl Tryz.call38 _ (qj rfl rfl rfl) (by simp) ((HDR.out w2 _ _ (((hd 1 _ rfl rfl rfl (aj rfl)).2.1 rfl)).rd (((hd 6 _ rfl rfl rfl (aj rfl)).2.2.2.2 rfl)).txt).mono ?_);rintro e w3 ⟨rfl,hb⟩;exact ⟨_,rfl,⟨rfl,aF,aF,aF,aF⟩,hb⟩
    ·intro _ _ a w2 hB hF hd;exact aG <| bJ rfl ⟨((hd 7 _ rfl rfl rfl (aj rfl)).1),aF,aF,aF,aF⟩
    ·intro _ _ a w2 hB hF hd;exact aG <| aO (aU rfl ((hd 8 _ rfl rfl rfl (aj rfl)).1) rfl) ⟨rfl,aF,aF,aF,aF⟩
    ·intro _ _ a w2 hB hF hd;exact aG <| aO (aU rfl ((hd 8 _ rfl rfl rfl (aj rfl)).1) rfl) ⟨rfl,aF,aF,aF,aF⟩
    ·intro _ _ a w2 hB hF hd;exact aG <| lS rfl ⟨((hd 10 _ rfl rfl rfl (aj rfl)).1),aF,aF,aF,aF⟩
   ·refine dD ?_;refine ⟨(fun h=> by cases h),(fun h=> by cases h),(fun h=> by cases h),(fun h=> by cases h),(fun h=> by cases h),(fun h=> by cases h),(fun h=> by cases h),(fun h=> by cases h),(fun h=> by cases h),(fun h=> by cases h),(fun h=> by cases h),?_,(fun h=> by cases h),(fun h=> by cases h),trivial⟩
    ·exact fun _=> ⟨rfl,rfl,fun a w2 K h=> bE rfl rfl Tryz.zeroValue22 (by simp) h⟩
   ·refine dD ?_;refine ⟨(fun _ h=> by cases h),(fun _ h=> by cases h),(fun _ h=> by cases h),(fun _ h=> by cases h),(fun _ h=> by cases h),(fun _ h=> by cases h),(fun _ h=> by cases h),(fun _ h=> by cases h),(fun _ h=> by cases h),(fun _ h=> by cases h),(fun _ h=> by cases h),(fun _ h=> by cases h),?_,(fun _ h=> by cases h),trivial⟩
    ·intro p hp;obtain rfl:11=p:=iV hp;exact ⟨rfl,rfl,⟨_,rfl⟩,aj rfl,fun a w2 b K hB hF hd hx hb h=> cK rfl rfl bZ hx ((hd 9 _ rfl rfl rfl (aj rfl)).1) hb h⟩
   ·intro a w3 blk hB hF hS hv hfin fG;obtain ⟨v11,Rq,aap⟩:=hv 11 _ rfl rfl;obtain ⟨x17,aeI⟩:∃x,x=a.tmps.getD 17 undef:=⟨_,rfl⟩
    obtain ⟨x19,TV⟩:∃x,x=a.tmps.getD 19 undef:=⟨_,rfl⟩
    obtain ⟨x21,aeH⟩:∃x,x=a.tmps.getD 21 undef:=⟨_,rfl⟩
    obtain ⟨x22,aeG⟩:∃x,x=a.tmps.getD 22 undef:=⟨_,rfl⟩
    have ha:=aK rfl rfl hF [_,x17,_,x19,_,x21,x22,_,_,_,_,_,undef,_] rfl ⟨(hS 0 _ rfl rfl rfl).1,aeI.symm,(hS 2 _ rfl rfl rfl).1,TV.symm,(hS 4 _ rfl rfl rfl).1,aeH.symm,aeG.symm,(hS 7 _ rfl rfl rfl).1,(hS 8 _ rfl rfl rfl).1,(hS 9 _ rfl rfl rfl).1,(hS 10 _ rfl rfl rfl).1,v11,trivial,(hS 13 _ rfl rfl rfl).1,trivial⟩;have f11:=hfin 12 _ 11 rfl rfl;simp only [puts,Act.put,dS,dU,dV] at ha;subst ha;clear aeI TV aeH aeG;have V11:aD .u8 w3 (blk 11) 32 (KR):=⟨_,f11⟩
    clear hS hv hfin fG hF v11 f11;replace h6:=h6.kept hB;replace hbel:=hbel.trans (hB.mono hbel.size);obtain ⟨x9,e9⟩:∃x,x=blk 11:=⟨_,rfl⟩
    rw [<-e9] at V11 ⊢;have h9:=V11;clear e9 hB V11 Rq aap
    go_wp2_with (first
     | (refine aM rfl 22 _ rfl .u8 x9 32 KR 5 dB bZ rfl h9 ?_)
     | (refine aH rfl 22 _ _ rfl .u8 (w.heap.size+3) 32 (fun _=> 0) KR bZ rfl rfl h6 ?_))
    exact bodyPost_ret (dM rfl _ _ .u8 (w.heap.size+3) 32 _ 5 rfl (h6.setRow 32 KR) dB bZ) rfl ⟨rfl,ay hbel (by omega) _⟩
theorem KN (S P:Int) (v:Value) (n:Nat) (f:Nat->Int) (w:World) (hv:Rd .u8 w v n f) (hn:n<=300):
  Calls Tryz.prog 17 #[.agg (arr .u8 32 (dg 256 S)),.agg (arr .u8 32 (dg 256 P)),v] w fun e w'=> ∃u er,e=.returned (.tuple #[u,.int .i64 er])/\WrR S P n f w' u er/\Below w.heap.size w w':=by
 have Kk:=ak (fun w=> pE S w);have WI:Hid (∀w,Calls Tryz.prog 68 #[.agg (arr .u8 32 (dg 256 S)),.agg (arr .u8 32 (dg 256 P))] w fun e w'=> e=.returned (.agg (arr .u8 32 (dg 256 (mulN S P))))/\Below w.heap.size w w'):=fun w=> vT S P w;have vO:=ak (fun w=> Cm S P (mulN S 9) P w)
 have Oo:Hid (∀w u,Rd .u8 w u n f->Calls Tryz.prog 20 #[.agg (arr .u8 32 (lN (mulN S P) (mulN S 9) P)),.agg (arr .u8 12 (fun _=> 0)),.slice none 0 0,u] w fun e w'=> ∃v,e=.returned v/\Rd .u8 w' v (n+16) (eP (lN (mulN S P) (mulN S 9) P) qR 0 qR n f)/\Below w.heap.size w w'):=fun w u h=>
  zG _ qR (Fq _ _ _) (fun i _=> by unfold qR;decide) _ u 0 n qR f w (Rd.nil _ _ _) h (fun i hi=> absurd hi (by omega)) (by decide) (by omega)
 have Ol:Hid (fU S P n f=gK 32 (dg 256 (mulN S 9)) (eP (lN (mulN S P) (mulN S 9) P) qR 0 qR n f)):=rfl;have HT0:=ak hv;have Dz:=ak hn;have vK:Hid (∀w u er,((mulN S P=0->u=.slice none 0 0/\er=21)/\(mulN S P≠0->er=0/\Rd .u8 w u (32+(n+16)) (fU S P n f)))->WrR S P n f w u er):=fun w u er h=> h;have DC:Hid (kE (mulN S P) (mulN S 9) P=if mulN S P=0 then (fun _=> 0) else lN (mulN S P) (mulN S 9) P):=rfl;obtain ⟨ta,tc,ev,_⟩:=id hv;subst ev;obtain ⟨ok,hok⟩:∃b,b= !decide (mulN S P=0):=⟨_,rfl⟩
 rw [<-hok] at vO;obtain ⟨KR,NV⟩:∃x,x=kE (mulN S P) (mulN S 9) P:=⟨_,rfl⟩
 rw [<-NV] at vO DC;obtain ⟨K,hK⟩:∃x,x=lN (mulN S P) (mulN S 9) P:=⟨_,rfl⟩
 rw [<-hK] at Oo Ol DC;obtain ⟨X,hX⟩:∃x,x=mulN S P:=⟨_,rfl⟩
 rw [<-hX] at vO DC vK WI hok;obtain ⟨FI,NW⟩:∃x,x=mulN S 9:=⟨_,rfl⟩
 rw [<-NW] at Kk vO Ol;obtain ⟨SF,Db⟩:∃x,x=eP K qR 0 qR n f:=⟨_,rfl⟩
 rw [<-Db] at Oo Ol;obtain ⟨WF,hWF⟩:∃x,x=fU S P n f:=⟨_,rfl⟩
 rw [<-hWF] at vK Ol;have sV:=ak hok;clear NV hK hX NW Db hWF hv hn hok
 go_enter Tryz.func17,Tryz.ntmps17
 go_upto_region 1 with (fail);refine aC (fun w1=> aD .u8 w1 w.heap.size 32 (dg 256 S)/\aD .u8 w1 (w.heap.size+1) 32 (dg 256 P)/\Below w.heap.size w w1) ⟨.alloc (bg rfl rfl) _,bg (by first | omega | (simp<;> omega)) rfl,((bA _ _).alloc (aP _) _).alloc (by first | omega | (simp<;> omega)) _⟩ ?_;rintro w1 ⟨h3,h4,hbel⟩;go_wp2_with (refine aM rfl 22 _ rfl .u8 w.heap.size 32 (dg 256 S) 5 dB bZ rfl h3 ?_);refine (Kk.out _).mono ?_;rintro e w2 ⟨rfl,hb⟩;replace h3:=h3.kept hb;replace h4:=h4.kept hb;replace hbel:=hbel.trans (hb.mono hbel.size);have hl4:=h4.lt;clear hb;go_upto_region 2 with (refine aH rfl 22 _ _ rfl .u8 w2.heap.size 32 (fun _=> 0) (dg 256 FI) bZ rfl rfl (bg rfl (by rfl)) ?_);refine aC (fun w3=> aD .u8 w3 w2.heap.size 32 (dg 256 FI)/\Below w2.heap.size w2 w3) ⟨(bg rfl (by rfl):aD .u8 _ _ 32 (fun _=> 0)).setRow _ _,ay ((bA _ _).alloc (aP _) _) (aP _) _⟩ ?_;rintro w3 ⟨h8,hb⟩;replace h3:=h3.kept hb;replace h4:=h4.kept hb;replace hbel:=hbel.trans (hb.mono hbel.size);obtain ⟨x8,e8⟩:∃x,x=w2.heap.size:=⟨_,rfl⟩
 rw [<-e8] at h8 hl4 ⊢;clear e8 hb
 try simp only [Act.put,dS,dU,dV]
 refine bT (n:=32) (by kernel_rfl) (by kernel_rfl) (by kernel_rfl) rfl
  (mU [(10,9)]) (iO [(10,9)]) (fun _=> arr .u8 32 (fun _=> 0)) (fun _=> (arr .u8 32 (KR))) (fun _=> 22) (fun _=> 9)
  (fun ii vv _=> (match ii with | 0=> vv=.agg (arr .u8 32 (dg 256 S)) | 1 | 4=> vv=.agg (arr .u8 32 (dg 256 P)) | 2=> vv=.agg (arr .u8 32 (dg 256 X)) | 3=> vv=.agg (arr .u8 32 (dg 256 FI)) | 5 | 6=> vv=.tuple #[.agg (arr .u8 32 (KR)),.bool ok] | 7=> vv=.agg (arr .u8 32 (KR)) | 8 | 11=> vv=.bool ok | _=> True)) (fun _ _=> True) (fun _ _ _=> trivial) (fun _ _ _ _ _ _ _=> trivial) (fun _ _ _ _ h _=> h)
  (jL rfl) (iC rfl) ?_ ?_ ?_ ?_
 ·refine dD ?_;refine ⟨?_,?_,?_,?_,?_,?_,?_,?_,?_,(fun h=> by cases h),(fun _ h=> by cases h),?_,trivial⟩
  ·intro _ _ a w2 hB hF hd;exact aG <| aO (aB rfl dB rfl bZ (hF.same 3 rfl) (h3.below hB h3.lt)) rfl
  ·intro _ _ a w2 hB hF hd;exact aG <| aO (aB rfl dB rfl bZ (hF.same 4 rfl) (h4.below hB h4.lt)) rfl
  ·intro _ _ a w2 hB hF hd;refine aG <| aI _ _ _ rfl Tryz.call68 _ (args2 (hd 0 _ rfl rfl rfl (aj rfl)) (hd 1 _ rfl rfl rfl (aj rfl))) (by simp) ((WI.out w2).mono ?_);rintro e w3 ⟨rfl,hb⟩;exact ⟨_,rfl,rfl,hb⟩
  ·intro _ _ a w2 hB hF hd;exact aG <| aO (aB rfl dB rfl bZ (hF.same 8 rfl) (h8.below hB h8.lt)) rfl
  ·intro _ _ a w2 hB hF hd;exact aG <| aO (aB rfl dB rfl bZ (hF.same 4 rfl) (h4.below hB h4.lt)) rfl
  ·intro _ _ a w2 hB hF hd;refine aG <| aI _ _ _ rfl Tryz.call71 _ (qj (hd 2 _ rfl rfl rfl (aj rfl)) (hd 3 _ rfl rfl rfl (aj rfl)) (hd 4 _ rfl rfl rfl (aj rfl))) (by simp) ((vO.out w2).mono ?_);rintro e w3 ⟨rfl,hb⟩;exact ⟨_,rfl,rfl,hb⟩
  ·intro _ _ a w2 hB hF hd;exact aG <| bJ rfl (hd 5 _ rfl rfl rfl (aj rfl))
  ·intro _ _ a w2 hB hF hd;exact aG <| aO (aU rfl (hd 6 _ rfl rfl rfl (aj rfl)) rfl) rfl
  ·intro _ _ a w2 hB hF hd;exact aG <| aO (aU rfl (hd 6 _ rfl rfl rfl (aj rfl)) rfl) rfl
  ·intro _ _ a w2 hB hF hd;exact aG <| lS rfl (hd 8 _ rfl rfl rfl (aj rfl))
 ·refine dD ?_;refine ⟨(fun h=> by cases h),(fun h=> by cases h),(fun h=> by cases h),(fun h=> by cases h),(fun h=> by cases h),(fun h=> by cases h),(fun h=> by cases h),(fun h=> by cases h),(fun h=> by cases h),?_,(fun h=> by cases h),(fun h=> by cases h),trivial⟩
  ·exact fun _=> ⟨rfl,rfl,fun a w2 K h=> bE rfl rfl Tryz.zeroValue22 (by simp) h⟩
 ·refine dD ?_;refine ⟨(fun _ h=> by cases h),(fun _ h=> by cases h),(fun _ h=> by cases h),(fun _ h=> by cases h),(fun _ h=> by cases h),(fun _ h=> by cases h),(fun _ h=> by cases h),(fun _ h=> by cases h),(fun _ h=> by cases h),(fun _ h=> by cases h),?_,(fun _ h=> by cases h),trivial⟩
  ·intro p hp;obtain rfl:9=p:=iV hp;exact ⟨rfl,rfl,⟨_,rfl⟩,aj rfl,fun a w2 b K hB hF hd hx hb h=> cK rfl rfl bZ hx (hd 7 _ rfl rfl rfl (aj rfl)) hb h⟩
 ·intro a w4 blk hB hF hS hv hfin fG;obtain ⟨v9,v9l,v9u⟩:=hv 9 _ rfl rfl;have ha:=aK rfl rfl hF [_,_,_,_,_,_,_,_,_,_,undef,_] rfl ⟨hS 0 _ rfl rfl rfl,hS 1 _ rfl rfl rfl,hS 2 _ rfl rfl rfl,hS 3 _ rfl rfl rfl,hS 4 _ rfl rfl rfl,hS 5 _ rfl rfl rfl,hS 6 _ rfl rfl rfl,hS 7 _ rfl rfl rfl,hS 8 _ rfl rfl rfl,v9,trivial,hS 11 _ rfl rfl rfl,trivial⟩;have f9:=hfin 10 _ 9 rfl rfl;simp only [puts,Act.put,dS,dU,dV] at ha;subst ha;have V9:aD .u8 w4 (blk 9) 32 (KR):=⟨_,f9⟩
  clear hS hv hfin fG hF v9 f9;replace h8:=h8.kept hB;replace hbel:=hbel.trans (hB.mono hbel.size);obtain ⟨x9,e9⟩:∃x,x=blk 9:=⟨_,rfl⟩
  rw [<-e9] at V9 ⊢;have h9:=V9;clear e9 hB V9 v9l v9u h3 h4;by_cases hX:X=0
  case pos=>
   obtain rfl:ok=false:=by rw [sV.out,decide_eq_true hX];rfl
   have HR:=ak (vK.out w4 (.slice none 0 0) 21 ⟨fun _=> ⟨rfl,rfl⟩,fun h=> absurd hX h⟩);clear hX DC vK sV;go_wp2;go_ret2;exact ⟨_,_,rfl,HR.out,hbel⟩
  case neg=>
   obtain rfl:ok=true:=by rw [sV.out,decide_eq_false hX];rfl
   obtain rfl:KR=K:=by rw [DC.out,if_neg hX]
   have HR:=ak (fun w u h=> vK.out w u 0 ⟨fun h=> absurd h hX,fun _=> ⟨rfl,h⟩⟩);clear hX DC vK sV;have Zw:=h8.lt;have hl9:=h9.lt;go_upto_region 6 with (fail);refine aC (fun w5=> aD .u8 w5 w4.heap.size 12 (fun _=> 0)/\Below w4.heap.size w4 w5) ⟨bg rfl (by rfl),(bA _ _).alloc (aP _) _⟩ ?_;rintro wG ⟨h11,hb⟩;replace h8:=h8.kept hb;replace h9:=h9.kept hb;replace hbel:=hbel.trans (hb.mono hbel.size);obtain ⟨x11,e11⟩:∃x,x=w4.heap.size:=⟨_,rfl⟩
   rw [<-e11] at h11 Zw hl9 ⊢;clear e11 hb
   try simp only [Act.put,dS,dU,dV]
   refine gB (n:=32) 6 (by decide) (by kernel_rfl) (by kernel_rfl) (by kernel_rfl) (by kernel_rfl) rfl
    (fun ii vv ww=> (match ii with | 0=> vv=.agg (arr .u8 32 (dg 256 FI)) | 2=> vv=.agg (arr .u8 32 (KR)) | 3=> vv=.agg (arr .u8 12 (fun _=> 0)) | 4=> vv=(.slice ta n tc) | _=> True)/\(ii=1->Go.aQ.Own .u8 5 wG.heap.size ww vv 32 (dg 256 FI))/\(ii=5->Rd .u8 ww vv (n+16) (SF)))
    (fun i v w w' h hE=> ⟨h.1,fun e=> Go.aQ.Own.below (h.2.1 e) hE,fun e=> Rd.below (h.2.2 e) hE⟩) ?_ ?_
   ·refine dD ?_;refine ⟨?_,?_,?_,?_,?_,?_,(aF),(aF),(aF),trivial⟩
    ·intro _ a w2 hB hF hd;exact aG <| aO (aB rfl dB rfl bZ (hF.same 8 rfl) (h8.below hB h8.lt)) ⟨rfl,aF,aF⟩
    ·intro _ a w2 hB hF hd;refine aG <| aI _ _ _ rfl Tryz.call14 _ (args1 ((hd 0 _ rfl (aj rfl)).1)) (by simp) ((kH (dg 256 FI) (fun i _=> aN (by decide) _ _) wG.heap.size w2 hB.size).mono ?_);rintro e w3 ⟨u,rfl,hr,hb⟩;exact ⟨u,rfl,⟨trivial,fun _=> hr,aF⟩,hb⟩
    ·intro _ a w2 hB hF hd;exact aG <| aO (aB rfl dB rfl bZ (hF.same 9 rfl) (h9.below hB h9.lt)) ⟨rfl,aF,aF⟩
    ·intro _ a w2 hB hF hd;exact aG <| aO (aB rfl tT rfl AL (hF.same 11 rfl) (h11.below hB h11.lt)) ⟨rfl,aF,aF⟩
    ·intro _ a w2 hB hF hd;exact aG <| bJ rfl ⟨(hF.same 2 rfl),aF,aF⟩
    ·intro _ a w2 hB hF hd;refine aG <| aI _ _ _ rfl Tryz.call20 _ (lG ((hd 2 _ rfl (aj rfl)).1) ((hd 3 _ rfl (aj rfl)).1) rfl ((hd 4 _ rfl (aj rfl)).1)) (by simp) ((Oo.out w2 _ ((HT0.out.below hbel).below hB)).mono ?_);rintro e w3 ⟨u,rfl,hr,hb⟩;exact ⟨u,rfl,⟨trivial,aF,fun _=> hr⟩,hb⟩
   ·intro a wH hB hF hS;obtain ⟨Ww,Aa⟩:∃x,x=a.tmps.getD 26 undef:=⟨_,rfl⟩
    have P26:Go.aQ.Own .u8 5 wG.heap.size wH Ww 32 (dg 256 FI):=by rw [Aa];exact (hS 1 _ rfl (by decide)).2.1 rfl
    obtain ⟨x30,abx⟩:∃x,x=a.tmps.getD 30 undef:=⟨_,rfl⟩
    have P30:Rd .u8 wH x30 (n+16) (SF):=by rw [abx];exact (hS 5 _ rfl (by decide)).2.2 rfl
    have ha:=aK rfl rfl hF [_,Ww,_,_,_,x30] rfl ⟨(hS 0 _ rfl (by decide)).1,Aa.symm,(hS 2 _ rfl (by decide)).1,(hS 3 _ rfl (by decide)).1,(hS 4 _ rfl (by decide)).1,abx.symm,trivial⟩;simp only [puts,List.take_succ_cons,List.take_zero,Act.put,dS,dU,dV] at ha;subst ha;change tl _ _ _ (_::_::_:: []) _ _;clear Aa abx;clear hS hF;have qW:=hbel.size;replace hbel:=hbel.trans (hB.mono hbel.size);have qG:=hB.size;have hnn:=Dz.out;have HO:Hid (Go.aQ.Own .u8 5 wG.heap.size wH Ww 32 WF):=P26.congr (fun i hi=> by rw [Ol.out];exact (jW hi).symm);refine jP rfl (gq _ _ 23 rfl wG.heap.size 5 .u8 1 fQ iW Ww 32 WF HO.out rfl x30 (n+16) SF P30 rfl (fun i _=> by rw [Ol.out];exact iQ) (by omega) (by omega) qG ?_);intro v31 wI ho hg;have xD:=below_grown hbel hg HO.out (by have:=hbel.size;omega) (by have:=hbel.size;omega);have HRR:=ak (HR.out _ _ ho.rd);clear ho hg P26 P30 HO hB HR;refine kN rfl _ (.inr rfl) (kN rfl _ (.inr rfl) (nY ?_));simp only [Act.put,Act.eval,dS,dU,dV];go_wp2;go_ret2;exact ⟨_,_,rfl,HRR.out,xD⟩
theorem zo (T:Int) (v:Value) (n:Nat) (f:Nat->Int) (w:World) (hv:Rd .u8 w v n f) (hn:n<48):
  Calls Tryz.prog 24 #[.agg (arr .u8 32 (dg 256 T)),v] w fun e w'=> e=.returned (.tuple #[.slice none 0 0,.int .i64 10])/\Below w.heap.size w w':=by
 obtain ⟨ta,tc,ev,_⟩:=id hv;subst ev;have h48:(n:Int)<48:=by omega
 clear hv hn
 go_enter Tryz.func24,Tryz.ntmps24
 go_wp2;go_ret2;exact ⟨rfl,(bA _ _).alloc (aP _) _⟩
theorem DX (T:Int) (v:Value) (n N:Nat) (hN:N=n+48) (f:Nat->Int) (w:World) (hv:Rd .u8 w v N f) (hn:n<=400) (hf:∀i,i<N->0<=f i/\f i<256):
  Calls Tryz.prog 24 #[.agg (arr .u8 32 (dg 256 T)),v] w fun e w'=> ∃u er,e=.returned (.tuple #[u,.int .i64 er])/\YT T n f w' u er/\Below w.heap.size w w':=by
 have Kk:=ak (fun w=> pE T w);have WI:Hid (∀w,Calls Tryz.prog 68 #[.agg (arr .u8 32 (dg 256 T)),.agg (arr .u8 32 (dg 256 (lW f)))] w fun e w'=> e=.returned (.agg (arr .u8 32 (dg 256 (jJ T f))))/\Below w.heap.size w w'):=fun w=> vT T (lW f) w;have vO:Hid (∀w,Calls Tryz.prog 71 #[.agg (arr .u8 32 (dg 256 (jJ T f))),.agg (arr .u8 32 (dg 256 (lW f))),.agg (arr .u8 32 (dg 256 (mulN T 9)))] w fun e w'=> e=.returned (.tuple #[.agg (arr .u8 32 (kE (jJ T f) (lW f) (mulN T 9))),.bool (!decide (jJ T f=0))])/\Below w.heap.size w w'):=fun w=> Cm T (lW f) (lW f) (mulN T 9) w
 have Kl:Hid (∀w u,Rd .u8 w u (n+16) (fun i=> f (32+i))->Calls Tryz.prog 25 #[.agg (arr .u8 32 (Bh T f)),.agg (arr .u8 12 (fun _=> 0)),.slice none 0 0,u] w fun e w'=> ∃v,e=.returned v/\Rf (mJ T n f) w' v n (Bj T f)/\Below w.heap.size w w'):=fun w u h=>
  zH _ qR (Fq _ _ _) (fun i _=> by unfold qR;decide) _ u 0 n qR _ w (Rd.nil _ _ _) h (fun i hi=> absurd hi (by omega)) (fun i hi=> hf (32+i) (by omega)) (by decide) (by omega)
 have HFQ:Hid (∀i,i<32->f i=dg 256 (lW f) i):=fun i hi=> (qh (by decide) (fun i hi=> hf i (by omega)) i hi).symm;have JW:Hid (∀i,i<32->0<=f i/\f i<256):=fun i hi=> hf i (by omega);have vK:Hid (∀w u er,((jJ T f=0->u=.slice none 0 0/\er=21)/\(jJ T f≠0->(mJ T n f=false->u=.slice none 0 0/\er=20)/\(mJ T n f=true->er=0/\Rd .u8 w u n (Bj T f))))->YT T n f w u er):=fun w u er h=> h;have HV0:=ak hv;obtain ⟨ta,tc,ev,hc1,hc2,_,_⟩:=id hv;subst ev;obtain ⟨a2,g1,g2,g3⟩:=Rd.cut (P:=Tryz.prog) fQ iW ta N tc 32 N (by omega) (aP _) hc1;have G2:=ak g2;have WG:Hid (∀w,Rd .u8 w (.slice ta N tc) N f->Rd .u8 w (.slice a2 (N - 32) (tc - 32)) (n+16) (fun i=> f (32+i))):=fun w h=> by have h2:=(g3 w f h).2;rwa [show N - 32=n+16 by omega] at h2 ⊢
 obtain ⟨b1,o1,q1,l1,c1⟩:=hv.wC (by omega);subst q1;have sW:=ak c1;have h48:¬ (N:Int)<48:=by omega
 have h48':48<=N:=by omega
 have DC:Hid (kE (jJ T f) (lW f) (mulN T 9)=if jJ T f=0 then (fun _=> 0) else Bh T f):=rfl;obtain ⟨KR,NV⟩:∃x,x=kE (jJ T f) (lW f) (mulN T 9):=⟨_,rfl⟩
 rw [<-NV] at vO DC;obtain ⟨ok,hok⟩:∃x,x=mJ T n f:=⟨_,rfl⟩
 rw [<-hok] at Kl vK;obtain ⟨H,hH⟩:∃x,x=Bj T f:=⟨_,rfl⟩
 rw [<-hH] at Kl vK;obtain ⟨K,hK⟩:∃x,x=Bh T f:=⟨_,rfl⟩
 rw [<-hK] at Kl DC;obtain ⟨nz,hnz⟩:∃b,b= !decide (jJ T f=0):=⟨_,rfl⟩
 rw [<-hnz] at vO;obtain ⟨X,hX⟩:∃x,x=jJ T f:=⟨_,rfl⟩
 rw [<-hX] at DC vK WI vO hnz;obtain ⟨FI,NW⟩:∃x,x=lW f:=⟨_,rfl⟩
 rw [<-NW] at vO HFQ WI;obtain ⟨PT,hPT⟩:∃x,x=mulN T 9:=⟨_,rfl⟩
 rw [<-hPT] at Kk vO;have HNZ:=ak hnz;clear hN NV hok hH hK hX NW hPT hnz g1 g2 g3 c1 hv hf hc1 hc2 hn
 go_enter Tryz.func24,Tryz.ntmps24
 go_upto_region 4 with (fail);refine aC (fun w1=> aD .u8 w1 w.heap.size 32 (dg 256 T)/\aD .u8 w1 (w.heap.size+1) 32 (fun _=> 0)/\Below w.heap.size w w1) ⟨.alloc (bg rfl rfl) _,bg (by first | omega | (simp<;> omega)) (by rfl),((bA _ _).alloc (aP _) _).alloc (by first | omega | (simp<;> omega)) _⟩ ?_;rintro w1 ⟨h2,h6,hbel⟩;go_wp2
 go_loopw [7] (fun i wr=> ∃k:Nat,k<=32/\i=.int .i64 (k:Int)/\aD .u8 wr (w.heap.size+1) 32 (upto k f (fun _=> 0))/\aD .u8 wr w.heap.size 32 (dg 256 T)/\Below w.heap.size w wr) (fun i _=> 32 - (intOf i).toNat)
 case atStart=> exact ⟨0,dR _,rfl,by rw [bF];exact h6,h2,hbel⟩
 case round=>
  clear h2 h6 hbel;obtain ⟨k,hk,rfl,h6,h2,hbel⟩:=hrel;by_cases hlt:k<32
  ·have e3:=h6.cell k hlt;have f3:=h6.free k;have e1:=(hbel.cell (p:=⟨b1,o1+k,none⟩) l1).trans (sW.out k (by omega));obtain ⟨x0,x1⟩:=JW.out k hlt;obtain ⟨x,hx⟩:∃x,x=f k:=⟨_,rfl⟩
   rw [<-hx] at x0 x1 e1;rw [upto_at] at e3;have HX:=ak hx;have j2:(k:Int)<(N:Int):=by omega
   clear hx;go_wp2;go_roundw
   case rel=> exact ⟨k+1,by omega,by go_num,by rw [<-aY HX.out];exact h6.set k x,aD.other (p:=⟨w.heap.size+1,k,none⟩) h2 (show w.heap.size≠w.heap.size+1 by omega) _,hbel.setCell (p:=⟨w.heap.size+1,k,none⟩) (show w.heap.size<=w.heap.size+1 by omega) _⟩
   case measure=> simp [intOf] <;> omega
  ·obtain rfl:k=32:=by omega
   replace h6:=(h6.congr (bP f (fun _=> 0) (aP _))).congr HFQ.out;obtain ⟨wq,hwq⟩:∃x,x=wr:=⟨_,rfl⟩
   rw [<-hwq] at h6 h2 hbel ⊢;clear hwq;go_upto_region 8 with (fail)
   refine bT (n:=43) (by kernel_rfl) (by kernel_rfl) (by kernel_rfl) rfl
    (mU [(11,10)]) (iO [(11,10)]) (fun _=> arr .u8 32 (fun _=> 0)) (fun _=> (arr .u8 32 (KR))) (fun _=> 22) (fun _=> 8)
    (fun ii vv _=> (match ii with | 0 | 4=> vv=.agg (arr .u8 32 (dg 256 T)) | 1 | 3=> vv=.agg (arr .u8 32 (dg 256 FI)) | 2=> vv=.agg (arr .u8 32 (dg 256 X)) | 5=> vv=.agg (arr .u8 32 (dg 256 PT)) | 6 | 7=> vv=.tuple #[.agg (arr .u8 32 (KR)),.bool nz] | 8=> vv=.agg (arr .u8 32 (KR)) | 9 | 12=> vv=.bool nz | _=> True)) (fun _ _=> True) (fun _ _ _=> trivial) (fun _ _ _ _ _ _ _=> trivial) (fun _ _ _ _ h _=> h)
    (jL rfl) (iC rfl) ?_ ?_ ?_ ?_
   ·refine dD ?_;refine ⟨?_,?_,?_,?_,?_,?_,?_,?_,?_,?_,(fun h=> by cases h),(fun _ h=> by cases h),?_,trivial⟩
    ·intro _ _ a w2 hB hF hd;exact aG <| aO (aB rfl dB rfl bZ (hF.same 2 rfl) (h2.below hB h2.lt)) rfl
    ·intro _ _ a w2 hB hF hd;exact aG <| aO (aB rfl dB rfl bZ (hF.same 6 rfl) (h6.below hB h6.lt)) rfl
    ·intro _ _ a w2 hB hF hd;refine aG <| aI _ _ _ rfl Tryz.call68 _ (args2 (hd 0 _ rfl rfl rfl (aj rfl)) (hd 1 _ rfl rfl rfl (aj rfl))) (by simp) ((WI.out w2).mono ?_);rintro e w3 ⟨rfl,hb⟩;exact ⟨_,rfl,rfl,hb⟩
    ·intro _ _ a w2 hB hF hd;exact aG <| aO (aB rfl dB rfl bZ (hF.same 6 rfl) (h6.below hB h6.lt)) rfl
    ·intro _ _ a w2 hB hF hd;exact aG <| aO (aB rfl dB rfl bZ (hF.same 2 rfl) (h2.below hB h2.lt)) rfl
    ·intro _ _ a w2 hB hF hd;refine aG <| aI _ _ _ rfl Tryz.call15 _ (args1 (hd 4 _ rfl rfl rfl (aj rfl))) (by simp) ((Kk.out w2).mono ?_);rintro e w3 ⟨rfl,hb⟩;exact ⟨_,rfl,rfl,hb⟩
    ·intro _ _ a w2 hB hF hd;refine aG <| aI _ _ _ rfl Tryz.call71 _ (qj (hd 2 _ rfl rfl rfl (aj rfl)) (hd 3 _ rfl rfl rfl (aj rfl)) (hd 5 _ rfl rfl rfl (aj rfl))) (by simp) ((vO.out w2).mono ?_);rintro e w3 ⟨rfl,hb⟩;exact ⟨_,rfl,rfl,hb⟩
    ·intro _ _ a w2 hB hF hd;exact aG <| bJ rfl (hd 6 _ rfl rfl rfl (aj rfl))
    ·intro _ _ a w2 hB hF hd;exact aG <| aO (aU rfl (hd 7 _ rfl rfl rfl (aj rfl)) rfl) rfl
    ·intro _ _ a w2 hB hF hd;exact aG <| aO (aU rfl (hd 7 _ rfl rfl rfl (aj rfl)) rfl) rfl
    ·intro _ _ a w2 hB hF hd;exact aG <| lS rfl (hd 9 _ rfl rfl rfl (aj rfl))
   ·refine dD ?_;refine ⟨(fun h=> by cases h),(fun h=> by cases h),(fun h=> by cases h),(fun h=> by cases h),(fun h=> by cases h),(fun h=> by cases h),(fun h=> by cases h),(fun h=> by cases h),(fun h=> by cases h),(fun h=> by cases h),?_,(fun h=> by cases h),(fun h=> by cases h),trivial⟩
    ·exact fun _=> ⟨rfl,rfl,fun a w2 K h=> bE rfl rfl Tryz.zeroValue22 (by simp) h⟩
   ·refine dD ?_;refine ⟨(fun _ h=> by cases h),(fun _ h=> by cases h),(fun _ h=> by cases h),(fun _ h=> by cases h),(fun _ h=> by cases h),(fun _ h=> by cases h),(fun _ h=> by cases h),(fun _ h=> by cases h),(fun _ h=> by cases h),(fun _ h=> by cases h),(fun _ h=> by cases h),?_,(fun _ h=> by cases h),trivial⟩
    ·intro p hp;obtain rfl:10=p:=iV hp;exact ⟨rfl,rfl,⟨_,rfl⟩,aj rfl,fun a w2 b K hB hF hd hx hb h=> cK rfl rfl bZ hx (hd 8 _ rfl rfl rfl (aj rfl)) hb h⟩
   ·intro a w3 blk hB hF hS hv hfin fG;obtain ⟨v10,Kv,Rs⟩:=hv 10 _ rfl rfl;have ha:=aK rfl rfl hF [_,_,_,_,_,_,_,_,_,_,_,undef,_] rfl ⟨hS 0 _ rfl rfl rfl,hS 1 _ rfl rfl rfl,hS 2 _ rfl rfl rfl,hS 3 _ rfl rfl rfl,hS 4 _ rfl rfl rfl,hS 5 _ rfl rfl rfl,hS 6 _ rfl rfl rfl,hS 7 _ rfl rfl rfl,hS 8 _ rfl rfl rfl,hS 9 _ rfl rfl rfl,v10,trivial,hS 12 _ rfl rfl rfl,trivial⟩;have f10:=hfin 11 _ 10 rfl rfl;simp only [puts,Act.put,dS,dU,dV] at ha;subst ha;have VO:aD .u8 w3 (blk 10) 32 (KR):=⟨_,f10⟩
    clear hS hv hfin fG hF v10 f10;replace hbel:=hbel.trans (hB.mono hbel.size);obtain ⟨x8,e8⟩:∃x,x=blk 10:=⟨_,rfl⟩
    rw [<-e8] at VO ⊢;have h8:=VO;clear e8 hB VO Kv Rs h2 h6;by_cases hX:X=0
    case pos=>
     obtain rfl:nz=false:=by rw [HNZ.out,decide_eq_true hX];rfl
     have HR:=ak (vK.out w3 (.slice none 0 0) 21 ⟨fun _=> ⟨rfl,rfl⟩,fun h=> absurd hX h⟩);clear hX DC HNZ vK;go_wp2;go_ret2;exact ⟨_,_,rfl,HR.out,hbel⟩
    case neg=>
     obtain rfl:nz=true:=by rw [HNZ.out,decide_eq_false hX];rfl
     obtain rfl:KR=K:=by rw [DC.out,if_neg hX]
     have HR1:Hid (ok=false->∀w,YT T n f w (.slice none 0 0) 20):=fun ho w=> vK.out w _ _ ⟨fun h=> absurd h hX,fun _=> ⟨fun _=> ⟨rfl,rfl⟩,fun h=> (by rw [ho] at h;cases h)⟩⟩;have HR2:Hid (ok=true->∀w u,Rd .u8 w u n H->YT T n f w u 0):=fun ho w u hu=> vK.out w _ _ ⟨fun h=> absurd h hX,fun _=> ⟨fun h=> (by rw [ho] at h;cases h),fun _=> ⟨rfl,hu⟩⟩⟩;clear hX DC HNZ vK;have Zw:=h8.lt;go_upto_region 12 with (fail);refine aC (fun w5=> aD .u8 w5 w3.heap.size 12 (fun _=> 0)/\Below w3.heap.size w3 w5) ⟨bg rfl (by rfl),(bA _ _).alloc (aP _) _⟩ ?_;rintro wG ⟨h10,hb⟩;replace h8:=h8.kept hb;replace hbel:=hbel.trans (hb.mono hbel.size);obtain ⟨x10,e10⟩:∃x,x=w3.heap.size:=⟨_,rfl⟩
     rw [<-e10] at h10 Zw ⊢;clear e10 hb
     try simp only [Act.put,dS,dU,dV]
     cases ok
     case false=>
      have oz:Hid (∀w u,Rd .u8 w u (n+16) (fun i=> f (32+i))->Calls Tryz.prog 25 #[.agg (arr .u8 32 KR),.agg (arr .u8 12 (fun _=> 0)),.slice none 0 0,u] w fun e w'=> e=.returned (.tuple #[.slice none 0 0,.int .i64 20])/\Below w.heap.size w w'):=fun w u h=> by
       refine (Kl.out w u h).mono ?_;rintro e w' ⟨v,rfl,ho,hb⟩;rw [ho.2 rfl];exact ⟨rfl,hb⟩
      refine aT (n:=43) (by kernel_rfl) (by kernel_rfl) (by kernel_rfl) rfl
       (fun ii vv _=> (match ii with | 0=> vv=.agg (arr .u8 32 (KR)) | 1=> vv=.agg (arr .u8 12 (fun _=> 0)) | 2=> vv=.slice (some ⟨b1,o1,none⟩) N tc | 3=> vv=.slice a2 (N - 32) (tc - 32) | 4=> vv=.tuple #[.slice none 0 0,.int .i64 (20)] | 5 | 7=> vv=.slice none 0 0 | 6 | 8=> vv=.int .i64 (20) | _=> True))
       (fun w w'=> Below w.heap.size w w') (fun _ _ h=> h) (fun _ _ _ _ h _=> h) ?_ ?_
      ·refine dD ?_;refine ⟨?_,?_,?_,?_,?_,?_,?_,?_,?_,trivial⟩
       ·intro a w2 hB hF hd;exact aG <| aO (aB rfl dB rfl bZ (hF.same 8 rfl) (h8.below hB h8.lt)) rfl
       ·intro a w2 hB hF hd;exact aG <| aO (aB rfl tT rfl AL (hF.same 10 rfl) (h10.below hB h10.lt)) rfl
       ·intro a w2 hB hF hd;exact aG <| bJ rfl (hF.same 1 rfl)
       ·intro a w2 hB hF hd;exact aG <| aO (aZ rfl (hd 2 _ rfl (aj rfl)) (by simp only [Option.map_some,Option.map_none];exact G2.out _)) rfl
       ·intro a w2 hB hF hd;refine aG <| aI _ _ _ rfl Tryz.call25 _ (lG (hd 0 _ rfl (aj rfl)) (hd 1 _ rfl (aj rfl)) rfl (hd 3 _ rfl (aj rfl))) (by simp) ((oz.out w2 _ (WG.out _ ((HV0.out.below hbel).below hB))).mono ?_);rintro e w3 ⟨rfl,hb⟩;exact ⟨_,rfl,rfl,hb⟩
       ·intro a w2 hB hF hd;exact aG <| aO (aU rfl (hd 4 _ rfl (aj rfl)) rfl) rfl
       ·intro a w2 hB hF hd;exact aG <| aO (aU rfl (hd 4 _ rfl (aj rfl)) rfl) rfl
       ·intro a w2 hB hF hd;exact aG <| lS rfl (hd 5 _ rfl (aj rfl))
       ·intro a w2 hB hF hd;exact aG <| lS rfl (hd 6 _ rfl (aj rfl))
      ·intro a w4 hB hF hS;have ha:=aK rfl rfl hF [_,_,_,_,_,_,_,_,_] rfl ⟨hS 0 _ rfl,hS 1 _ rfl,hS 2 _ rfl,hS 3 _ rfl,hS 4 _ rfl,hS 5 _ rfl,hS 6 _ rfl,hS 7 _ rfl,hS 8 _ rfl,trivial⟩;simp only [puts,Act.put,dS,dU,dV] at ha;subst ha;clear hS hF;have hb4:=hbel.trans (hB.mono hbel.size);go_wp2;go_ret2;exact ⟨_,_,rfl,HR1.out (by trivial) _,hb4⟩
     case true=>
      have oz:Hid (∀w u,Rd .u8 w u (n+16) (fun i=> f (32+i))->Calls Tryz.prog 25 #[.agg (arr .u8 32 KR),.agg (arr .u8 12 (fun _=> 0)),.slice none 0 0,u] w fun e w'=> ∃v,e=.returned v/\jK w' v n H/\Below w.heap.size w w'):=fun w u h=> by
       refine (Kl.out w u h).mono ?_;rintro e w' ⟨v,rfl,ho,hb⟩;exact ⟨v,rfl,ho.1 rfl,hb⟩
      refine aT (n:=43) (by kernel_rfl) (by kernel_rfl) (by kernel_rfl) rfl
       (fun ii vv ww=> (match ii with | 0=> vv=.agg (arr .u8 32 (KR)) | 1=> vv=.agg (arr .u8 12 (fun _=> 0)) | 2=> vv=.slice (some ⟨b1,o1,none⟩) N tc | 3=> vv=.slice a2 (N - 32) (tc - 32) | 6 | 8=> vv=.int .i64 (0) | _=> True)/\(ii=4->jK ww vv n (H))/\(ii=5->Rd .u8 ww vv n (H))/\(ii=7->Rd .u8 ww vv n (H)))
       (fun w w'=> Below w.heap.size w w') (fun _ _ h=> h) (fun i v w w' h hE=> ⟨h.1,fun e=> jK.below (h.2.1 e) hE,fun e=> Rd.below (h.2.2.1 e) hE,fun e=> Rd.below (h.2.2.2 e) hE⟩) ?_ ?_
      ·refine dD ?_;refine ⟨?_,?_,?_,?_,?_,?_,?_,?_,?_,trivial⟩
       ·intro a w2 hB hF hd;exact aG <| aO (aB rfl dB rfl bZ (hF.same 8 rfl) (h8.below hB h8.lt)) ⟨rfl,aF,aF,aF⟩
       ·intro a w2 hB hF hd;exact aG <| aO (aB rfl tT rfl AL (hF.same 10 rfl) (h10.below hB h10.lt)) ⟨rfl,aF,aF,aF⟩
       ·intro a w2 hB hF hd;exact aG <| bJ rfl ⟨(hF.same 1 rfl),aF,aF,aF⟩
       ·intro a w2 hB hF hd;exact aG <| aO (aZ rfl ((hd 2 _ rfl (aj rfl)).1) (by simp only [Option.map_some,Option.map_none];exact G2.out _)) ⟨rfl,aF,aF,aF⟩
       ·intro a w2 hB hF hd;refine aG <| aI _ _ _ rfl Tryz.call25 _ (lG ((hd 0 _ rfl (aj rfl)).1) ((hd 1 _ rfl (aj rfl)).1) rfl ((hd 3 _ rfl (aj rfl)).1)) (by simp) ((oz.out w2 _ (WG.out _ ((HV0.out.below hbel).below hB))).mono ?_);rintro e w3 ⟨u,rfl,hr,hb⟩;exact ⟨u,rfl,⟨trivial,fun _=> hr,aF,aF⟩,hb⟩
       ·intro a w2 hB hF hd;rw [if_pos (bG rfl)];obtain ⟨u_,wJ,CZ⟩:=((hd 4 _ rfl (aj rfl)).2.1 rfl)
        exact aO (aU rfl wJ rfl) ⟨trivial,aF,fun _=> (CZ),aF⟩
       ·intro a w2 hB hF hd;rw [if_pos (bG rfl)];obtain ⟨u_,wJ,CZ⟩:=((hd 4 _ rfl (aj rfl)).2.1 rfl)
        exact aO (aU rfl wJ rfl) ⟨rfl,aF,aF,aF⟩
       ·intro a w2 hB hF hd;exact aG <| lS rfl ⟨trivial,aF,aF,fun _=> ((hd 5 _ rfl (aj rfl)).2.2.1 rfl)⟩
       ·intro a w2 hB hF hd;exact aG <| lS rfl ⟨((hd 6 _ rfl (aj rfl)).1),aF,aF,aF⟩
      ·intro a w4 hB hF hS;obtain ⟨x40,LP⟩:∃x,x=a.tmps.getD 40 undef:=⟨_,rfl⟩
       have P40:jK w4 x40 n (H):=by rw [LP];exact (hS 4 _ rfl).2.1 rfl
       obtain ⟨x41,LM⟩:∃x,x=a.tmps.getD 41 undef:=⟨_,rfl⟩
       have P41:Rd .u8 w4 x41 n (H):=by rw [LM];exact (hS 5 _ rfl).2.2.1 rfl
       obtain ⟨x4,hx4⟩:∃x,x=a.tmps.getD 4 undef:=⟨_,rfl⟩
       have P4:Rd .u8 w4 x4 n (H):=by rw [hx4];exact (hS 7 _ rfl).2.2.2 rfl
       have ha:=aK rfl rfl hF [_,_,_,_,x40,x41,_,x4,_] rfl ⟨(hS 0 _ rfl).1,(hS 1 _ rfl).1,(hS 2 _ rfl).1,(hS 3 _ rfl).1,LP.symm,LM.symm,(hS 6 _ rfl).1,hx4.symm,(hS 8 _ rfl).1,trivial⟩;simp only [puts,Act.put,dS,dU,dV] at ha;subst ha;clear LP LM hx4;clear hS hF;have hb4:=hbel.trans (hB.mono hbel.size);have HR:=ak (HR2.out (by trivial) _ _ P4);clear P4 P40 P41;go_wp2;go_ret2;exact ⟨_,_,rfl,HR.out,hb4⟩
def UnA (T:Int) (N:Nat) (f:Nat->Int) (w:World) (u:Value) (er:Int):Prop:=(N<48->u=.slice none 0 0/\er=10)/\∀n,N=n+48->YT T n f w u er
theorem DY (T:Int) (v:Value) (N:Nat) (f:Nat->Int) (w:World) (hv:Rd .u8 w v N f) (hn:N<=400) (hf:∀i,i<N->0<=f i/\f i<256):
  Calls Tryz.prog 24 #[.agg (arr .u8 32 (dg 256 T)),v] w fun e w'=> ∃u er,e=.returned (.tuple #[u,.int .i64 er])/\UnA T N f w' u er/\Below w.heap.size w w':=by
 by_cases h:N<48
 ·refine (zo T v N f w hv h).mono ?_;rintro e w' ⟨rfl,hb⟩;exact ⟨_,_,rfl,⟨fun _=> ⟨rfl,rfl⟩,fun n hn=> by omega⟩,hb⟩
 ·refine (DX T v (N - 48) N (by omega) f w hv (by omega) hf).mono ?_;rintro e w' ⟨u,er,rfl,hr,hb⟩;exact ⟨u,er,rfl,⟨fun h2=> absurd h2 h,fun n hn=> by rwa [show N - 48=n by omega] at hr⟩,hb⟩
theorem yC (S U:Int):0<=mulN S U/\mulN S U<256 ^ 32:=by
 have h0:=Int.emod_nonneg (iq (dx S) (U % 2 ^ 255)) (show Pr≠0 by decide);have h1:=wT (iq (dx S) (U % 2 ^ 255)) FJ;have h2:Pr<=256 ^ 32:=by decide
 exact ⟨h0,Int.lt_of_lt_of_le h1 h2⟩
theorem OB (S P:Int) (n:Nat) (f:Nat->Int):lW (fU S P n f)=mulN S 9:=by
 have h:sm 256 (fU S P n f) 32=sm 256 (dg 256 (mulN S 9)) 32:=gW fun i hi=> jW hi;unfold lW;rw [h,nL (by decide),AJ (yC S 9).1 (yC S 9).2]
theorem WU (S P:Int) (n:Nat) (f:Nat->Int) (i:Nat):0<=fU S P n f i/\fU S P n f i<256:=by
 unfold fU gK
 split
 ·exact aN (by decide) _ _
 ·exact qJ _ _ _ _ _ _ _
theorem WT (S P:Int) (n:Nat) (f:Nat->Int):(fun i=> fU S P n f (32+i))=eP (lN (mulN S P) (mulN S 9) P) qR 0 qR n f:=funext fun _=> iQ
theorem aaP (S T:Int):mulN T (mulN S 9)=mulN S (mulN T 9):=Jr T S (9 % 2 ^ 255)
end Go.Proofs.YtpcjekgfnfjbpaaGreat
