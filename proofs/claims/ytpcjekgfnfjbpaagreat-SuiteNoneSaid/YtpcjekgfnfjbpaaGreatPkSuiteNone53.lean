/-
  Part 53 of SuiteNone. Conditions: named in each theorem.
-/
import Derived.Test.YtpcjekgfnfjbpaaGreatPkSuiteNone42
import Derived.Test.YtpcjekgfnfjbpaaGreatPkSuiteNone51
import Derived.Test.YtpcjekgfnfjbpaaGreatPkSuiteNone36
set_option linter.unusedVariables false
set_option linter.unusedSimpArgs false
set_option maxRecDepth 100000
set_option maxHeartbeats 6400000
namespace Go.bI
open Go.RowKit
def NQ (w:World) (v:Value) (T:TypeId) (n:Nat) (cs:Array Value):Prop:=∃b,v=.slice (some ⟨b,0,none⟩) n n/\w.heap[b]? =some (.cells cs T (0,0))
theorem NQ.below {w w':World} {v:Value} {T:TypeId} {n:Nat} {cs:Array Value} (h:NQ w v T n cs) (hb:Below w.heap.size w w'):NQ w' v T n cs:=by
 obtain ⟨b,e,h⟩:=h;exact ⟨b,e,by rw [hb.block b (Array.getElem?_eq_some_iff.1 h).1];exact h⟩
theorem NQ.aiZ {w:World} {v v1 v2:Value} {T:TypeId} {n m:Nat} {f g:Nat->Int} (h:NQ w v T 2 [v1,v2].toArray) (h1:Rd .u8 w v1 n f) (h2:Rd .u8 w v2 m g):
  nH w v 2 (iB 1 (fun _=> n) (fun _=> m)) (iZ 1 (fun _=> f) (fun _=> g)):=by
 obtain ⟨b,rfl,h⟩:=h;refine ⟨_,_,rfl,bB _,by decide,fun _=> ⟨b,0,rfl,(Array.getElem?_eq_some_iff.1 h).1,fun j hj=> ?_⟩⟩;rw [pF,cell_of_row _ _ _ _ T (0,0) h];rcases (by omega:j=0\/j=1) with rfl | rfl
 ·exact ⟨v1,rfl,h1⟩
 ·exact ⟨v2,rfl,h2⟩
end Go.bI
namespace Go.Proofs.YtpcjekgfnfjbpaaGreat
open Go.RowKit Go.bI Go.ChangeShapes
attribute [local go_sem ↓] Go.wp_at_zero Go.wp_at_succ
def WS:ByteArray:=⟨#[98,111,120]⟩
def Ru:Nat->Nat:=iB 1 (fun _=> 32) (fun _=> 32)
def WU (F P:Int):Nat->Nat->Int:=iZ 1 (fun _=> dg 256 F) (fun _=> dg 256 P)
def rH (X F P:Int):Nat->Int:=ES 32 (dg 256 X) (sP WS.size Ru 2) (AL WS.size (sN WS) Ru (WU F P) 2)
theorem WT (X F P:Int):∀i,i<32->0<=rH X F P i/\rH X F P i<256:=fun i _=> zO _ _ _ _ i
theorem ZG:∀j,j<2->Ru j<=4000:=by intro j hj;rcases (by omega:j=0\/j=1) with rfl | rfl<;> decide
theorem adH (F P:Int):∀j,j<2->∀i,i<Ru j->0<=WU F P j i/\WU F P j i<256:=by
 intro j hj i _;rcases (by omega:j=0\/j=1) with rfl | rfl
 ·exact aX (by decide) _ _
 ·exact aX (by decide) _ _
theorem WM (X F P:Int) (v t:Value) (w:World) (hv:Rd .u8 w v 32 (dg 256 X)) (ht:nH w t 2 Ru (WU F P)):
  Calls Tryz.prog 120 #[v,.string WS,t] w fun e w'=> e=.returned (.tuple #[.agg (arr .u8 32 (rH X F P)),.int .i64 0])/\Below w.heap.size w w':=
 Kv v 32 (dg 256 X) WS t 2 Ru (WU F P) w hv (by decide) (by decide) (fun i _=> aX (by decide) _ _) (by decide) ht (by decide) ZG (adH F P)
theorem Rt {a:Act} (w:World):(Instr.build 22 ((#[] :Array (Nat × Operand)).map fun (i,x)=> (i,a.eval x))).run Tryz.prog w=.ok (.agg (arr .u8 32 (fun _=> 0))) w:=Go.run_build w _ _ _ (by kernel_rfl)
theorem EF {a:Act} (w:World):(Instr.build 35 ((#[] :Array (Nat × Operand)).map fun (i,x)=> (i,a.eval x))).run Tryz.prog w=.ok (.agg (arr .u8 12 (fun _=> 0))) w:=Go.run_build w _ _ _ (by kernel_rfl)
def tV (X F P:Int):Nat->Int:=if X=0 then fun _=> 0 else rH X F P
theorem ED (S O F P:Int) (w:World):Calls Tryz.prog 118 #[.agg (arr .u8 32 (dg 256 S)),.agg (arr .u8 32 (dg 256 O)),.agg (arr .u8 32 (dg 256 F)),.agg (arr .u8 32 (dg 256 P))] w fun e w'=>
  e=.returned (.tuple #[.agg (arr .u8 32 (tV (mulN S O) F P)),.int .i64 (oI (mulN S O))])/\Below w.heap.size w w':=by
 have HSH:=ak (fun w=> Gb S O w);have HP0:=ak (fun (a:Act) w=> Rt (a:=a) w);have HDR:=ak (fun w v t=> WM (mulN S O) F P v t w);have HE:Hid (oI (mulN S O)=if mulN S O=0 then 21 else 0):=rfl;have HK:Hid (tV (mulN S O) F P=if mulN S O=0 then (fun _=> 0) else rH (mulN S O) F P):=rfl;obtain ⟨X,hX⟩:∃X,X=mulN S O:=⟨_,rfl⟩
 rw [<-hX] at HSH HDR HE HK ⊢;obtain ⟨er,her⟩:∃er,er=oI X:=⟨_,rfl⟩
 rw [<-her] at HSH HE ⊢;obtain ⟨KK,hKK⟩:∃K,K=rH X F P:=⟨_,rfl⟩
 rw [<-hKK] at HDR HK;obtain ⟨KR,hKR⟩:∃K,K=tV X F P:=⟨_,rfl⟩
 rw [<-hKR] at HK ⊢;clear hX her hKK hKR
 go_enter Tryz.func118,Tryz.ntmps118
 go_upto_region 1 with (fail)
 refine aG (fun w1=> aH .u8 w1 w.heap.size 32 (dg 256 S)/\aH .u8 w1 (w.heap.size+1) 32 (dg 256 O)/\aH .u8 w1 (w.heap.size+2) 32 (dg 256 F)/\aH .u8 w1 (w.heap.size+3) 32 (dg 256 P)/\aH .u8 w1 (w.heap.size+4) 32 (fun _=> 0)/\Below w.heap.size w w1)
  ⟨.alloc (.alloc (.alloc (.alloc (bG rfl rfl) _) _) _) _,.alloc (.alloc (.alloc (bG (by first | omega | (simp<;> omega)) rfl) _) _) _,.alloc (.alloc (bG (by first | omega | (simp<;> omega)) rfl) _) _,.alloc (bG (by first | omega | (simp<;> omega)) rfl) _,bG (by first | omega | (simp<;> omega)) (by rfl),(((((bM _ _).alloc (bB _) _).alloc (by first | omega | (simp<;> omega)) _).alloc (by first | omega | (simp<;> omega)) _).alloc (by first | omega | (simp<;> omega)) _).alloc (by first | omega | (simp<;> omega)) _⟩ ?_
 rintro w1 ⟨h4,h5,h6,h7,h8,hbel⟩;go_wp2_with (first | (refine aM rfl 22 _ rfl .u8 w.heap.size 32 (dg 256 S) 5 dU dz rfl h4 ?_) | (refine aM rfl 22 _ rfl .u8 (w.heap.size+1) 32 (dg 256 O) 5 dU dz rfl h5 ?_));refine (HSH.out _).mono ?_;rintro e w2 ⟨rfl,hb⟩;replace h6:=h6.kept hb;replace h7:=h7.kept hb;replace h8:=h8.kept hb;replace hbel:=hbel.trans (hb.mono hbel.size);have hl8:=h8.lt;clear hb h4 h5;go_upto_region 2 with (refine aF rfl 22 _ _ rfl .u8 w2.heap.size 32 (fun _=> 0) (dg 256 X) dz rfl rfl (bG rfl (by rfl)) ?_);refine aG (fun w3=> aH .u8 w3 w2.heap.size 32 (dg 256 X)/\Below w2.heap.size w2 w3) ⟨(bG rfl (by rfl):aH .u8 _ _ 32 (fun _=> 0)).setRow _ _,aA ((bM _ _).alloc (bB _) _) (bB _) _⟩ ?_;rintro w3 ⟨h10,hb⟩;replace h6:=h6.kept hb;replace h7:=h7.kept hb;replace h8:=h8.kept hb;replace hbel:=hbel.trans (hb.mono hbel.size);obtain ⟨x10,e10⟩:∃x,x=w2.heap.size:=⟨_,rfl⟩
 rw [<-e10] at h10 hl8 ⊢;clear e10 hb
 try simp only [Act.put,dH,dI,dJ]
 by_cases hX:X=0
 case pos=>
  obtain rfl:er=21:=by rw [HE.out,if_pos hX]
  obtain rfl:KR=fun _=> 0:=by rw [HK.out,if_pos hX]
  clear hX;go_wp2_with (first | (refine dV rfl (dL rfl (HP0.out _ _)) ?_) | (refine aF rfl 22 _ _ rfl .u8 (w.heap.size+4) 32 (fun _=> 0) (fun _=> 0) dz rfl rfl h8 ?_));exact bodyPost_ret (eY rfl _ _ .u8 (w.heap.size+4) 32 _ 5 rfl (h8.setRow 32 (fun _=> 0)) dU dz) rfl ⟨rfl,aA hbel (by omega) _⟩
 case neg=>
  obtain rfl:er=0:=by rw [HE.out,if_neg hX]
  obtain rfl:KR=KK:=by rw [HK.out,if_neg hX]
  clear hX HK HE;go_upto_region 4 with (fail)
  refine yj (n:=29) 7 (by decide) (by kernel_rfl) (by kernel_rfl) (by kernel_rfl) (by kernel_rfl) rfl
   (fun ii vv ww=> (match ii with | 0=> vv=.slice (some ⟨x10,0,none⟩) 32 32 | 1=> vv=.slice (some ⟨(w.heap.size+2),0,none⟩) 32 32 | 2=> vv=.slice (some ⟨(w.heap.size+3),0,none⟩) 32 32 | 4=> vv=.tuple #[.agg (arr .u8 32 (KR)),.int .i64 (0)] | 5=> vv=.agg (arr .u8 32 (KR)) | 6=> vv=.int .i64 (0) | _=> True)/\(ii=3->NQ ww vv 23 2 [.slice (some ⟨w.heap.size+2,0,none⟩) 32 32,.slice (some ⟨w.heap.size+3,0,none⟩) 32 32].toArray))
   (fun i v w w' h hE=> ⟨h.1,fun e=> NQ.below (h.2 e) hE⟩) ?_ ?_
  ·refine bQ ?_;refine ⟨?_,?_,?_,?_,?_,?_,?_,(aK),(aK),trivial⟩
   ·intro _ a w2 hB hF hd;exact aJ <| aO (cK rfl (hF.same 10 rfl) dU (by kernel_rfl)) ⟨rfl,aK⟩
   ·intro _ a w2 hB hF hd;exact aJ <| aO (cK rfl (hF.same 6 rfl) dU (by kernel_rfl)) ⟨rfl,aK⟩
   ·intro _ a w2 hB hF hd;exact aJ <| aO (cK rfl (hF.same 7 rfl) dU (by kernel_rfl)) ⟨rfl,aK⟩
   ·intro _ a w2 hB hF hd;exact aJ <| jW 55 23 2 _ [.slice (some ⟨(w.heap.size+2),0,none⟩) 32 32,.slice (some ⟨(w.heap.size+3),0,none⟩) 32 32] rfl Tryz.underlying55 (by kernel_rfl) (by kernel_rfl) rfl (by decide) (by decide) (by intro v hv;simp only [List.mem_cons,List.not_mem_nil,or_false] at hv;rcases hv with rfl | rfl<;> rfl) (by simp only [uG,List.map_cons,List.map_nil,show a.eval (Operand.tmp 23)=.slice (some ⟨(w.heap.size+2),0,none⟩) 32 32 from ((hd 1 _ rfl (aj rfl)).1),show a.eval (Operand.tmp 24)=.slice (some ⟨(w.heap.size+3),0,none⟩) 32 32 from ((hd 2 _ rfl (aj rfl)).1)];rfl) (by simp) ⟨trivial,fun _=> ((⟨_,rfl,heap_alloc_new _ _⟩))⟩
   ·intro _ a w2 hB hF hd;refine aJ <| aD _ _ _ rfl Tryz.call120 _ (tY ((hd 0 _ rfl (aj rfl)).1) rfl rfl) (by simp) ((HDR.out w2 _ _ ((h10.kept hB).rd (by decide)) (((hd 3 _ rfl (aj rfl)).2 rfl).aiZ ((h6.kept hB).rd (by decide)) ((h7.kept hB).rd (by decide)))).mono ?_);rintro e w3 ⟨rfl,hb⟩;exact ⟨_,rfl,⟨rfl,aK⟩,hb⟩
   ·intro _ a w2 hB hF hd;exact aJ <| aO (bD rfl ((hd 4 _ rfl (aj rfl)).1) rfl) ⟨rfl,aK⟩
   ·intro _ a w2 hB hF hd;exact aJ <| aO (bD rfl ((hd 4 _ rfl (aj rfl)).1) rfl) ⟨rfl,aK⟩
  ·intro a w4 hB hF hS;obtain ⟨x25,hx25⟩:∃x,x=a.tmps.getD 25 undef:=⟨_,rfl⟩
   have ha:=aI rfl rfl hF [_,_,_,x25,_,_,_] rfl ⟨(hS 0 _ rfl (by decide)).1,(hS 1 _ rfl (by decide)).1,(hS 2 _ rfl (by decide)).1,hx25.symm,(hS 4 _ rfl (by decide)).1,(hS 5 _ rfl (by decide)).1,(hS 6 _ rfl (by decide)).1,trivial⟩;simp only [puts,List.take_succ_cons,List.take_zero,Act.put,dH,dI,dJ] at ha;subst ha;change tl _ _ _ (_::_:: []) _ _;clear hx25;clear hS hF;replace h8:=h8.kept hB;replace hbel:=hbel.trans (hB.mono hbel.size);refine uX rfl (aW 22 _ _ rfl .u8 (w.heap.size+4) 32 (fun _=> 0) KR dz rfl rfl h8 ?_);refine NW rfl _ (.inr rfl) (LM ?_);have h8':=h8.setRow 32 KR;have hb':=aA hbel (show w.heap.size<=w.heap.size+4 by omega) (arr .u8 32 KR);clear h8 hbel hB;simp only [Act.put,Act.eval,dH,dI,dJ];go_wp2;exact bodyPost_ret (eY rfl _ _ .u8 (w.heap.size+4) 32 _ 5 rfl h8' dU dz) rfl ⟨rfl,hb'⟩
def Az:Nat->Int:=fun _=> 0
def lU (S P:Int) (n:Nat) (f:Nat->Int):Nat->Int:=fH 32 (dg 256 (mulN S 9)) (ji (rH (mulN S P) (mulN S 9) P) Az 0 Az n f)
def WrR (S P:Int) (n:Nat) (f:Nat->Int) (w:World) (u:Value) (er:Int):Prop:=(mulN S P=0->u=.slice none 0 0/\er=21)/\(mulN S P≠0->er=0/\Rd .u8 w u (32+(n+16)) (lU S P n f))
theorem Ny (S P:Int) (v:Value) (n:Nat) (f:Nat->Int) (w:World) (hv:Rd .u8 w v n f) (hn:n<=300):
  Calls Tryz.prog 65 #[.agg (arr .u8 32 (dg 256 S)),.agg (arr .u8 32 (dg 256 P)),v] w fun e w'=> ∃u er,e=.returned (.tuple #[u,.int .i64 er])/\WrR S P n f w' u er/\Below w.heap.size w w':=by
 have HPU:=ak (fun w=> pW S w);have RY:=ak (fun w=> ED S P (mulN S 9) P w)
 have HSE:Hid (∀w u,Rd .u8 w u n f->Calls Tryz.prog 70 #[.agg (arr .u8 32 (rH (mulN S P) (mulN S 9) P)),.agg (arr .u8 12 (fun _=> 0)),.slice none 0 0,u] w fun e w'=> ∃v,e=.returned (.tuple #[v,.int .i64 0])/\Go.bI.Own .u8 5 w.heap.size w' v (n+16) (ji (rH (mulN S P) (mulN S 9) P) Az 0 Az n f)/\Below w.heap.size w w'):=fun w u h=>
  EK _ Az (WT _ _ _) (fun i _=> by unfold Az;decide) _ u 0 n Az f w (Rd.nil _ _ _) h (fun i hi=> absurd hi (by omega)) (by decide) (by omega)
 have HB0:=ak (fun (a:Act) w=> EF (a:=a) w);have HWF:Hid (lU S P n f=fH 32 (dg 256 (mulN S 9)) (ji (rH (mulN S P) (mulN S 9) P) Az 0 Az n f)):=rfl;have HT0:=ak hv;have Xw:=ak hn;have RU:Hid (∀w u er,((mulN S P=0->u=.slice none 0 0/\er=21)/\(mulN S P≠0->er=0/\Rd .u8 w u (32+(n+16)) (lU S P n f)))->WrR S P n f w u er):=fun w u er h=> h;obtain ⟨ta,tc,ev,_⟩:=id hv;subst ev;by_cases hX:mulN S P=0
 case pos=>
  have hk1:tV (mulN S P) (mulN S 9) P=fun _=> 0:=by unfold tV;rw [if_pos hX]
  have hk2:oI (mulN S P)=21:=by unfold oI;rw [if_pos hX]
  rw [hk1,hk2] at RY;have HR:=ak (fun w=> RU.out w (.slice none 0 0) 21 ⟨fun _=> ⟨rfl,rfl⟩,fun h=> absurd hX h⟩);obtain ⟨FI,VJ⟩:∃x,x=mulN S 9:=⟨_,rfl⟩
  rw [<-VJ] at HPU RY;clear hX hk1 hk2 HSE VJ hv hn HWF RU
  go_enter Tryz.func65,Tryz.ntmps65
  go_upto_region 1 with (fail);refine aG (fun w1=> aH .u8 w1 w.heap.size 32 (dg 256 S)/\aH .u8 w1 (w.heap.size+1) 32 (dg 256 P)/\Below w.heap.size w w1) ⟨.alloc (bG rfl rfl) _,bG (by first | omega | (simp<;> omega)) rfl,((bM _ _).alloc (bB _) _).alloc (by first | omega | (simp<;> omega)) _⟩ ?_;rintro w1 ⟨h3,h4,hbel⟩;go_wp2_with (refine aM rfl 22 _ rfl .u8 w.heap.size 32 (dg 256 S) 5 dU dz rfl h3 ?_);refine (HPU.out _).mono ?_;rintro e w2 ⟨rfl,hb⟩;replace h3:=h3.kept hb;replace h4:=h4.kept hb;replace hbel:=hbel.trans (hb.mono hbel.size);have hl4:=h4.lt;clear hb;go_upto_region 2 with (refine aF rfl 22 _ _ rfl .u8 w2.heap.size 32 (fun _=> 0) (dg 256 FI) dz rfl rfl (bG rfl (by rfl)) ?_);refine aG (fun w3=> aH .u8 w3 w2.heap.size 32 (dg 256 FI)/\Below w2.heap.size w2 w3) ⟨(bG rfl (by rfl):aH .u8 _ _ 32 (fun _=> 0)).setRow _ _,aA ((bM _ _).alloc (bB _) _) (bB _) _⟩ ?_;rintro w3 ⟨h8,hb⟩;replace h3:=h3.kept hb;replace h4:=h4.kept hb;replace hbel:=hbel.trans (hb.mono hbel.size);obtain ⟨x8,e8⟩:∃x,x=w2.heap.size:=⟨_,rfl⟩
  rw [<-e8] at h8 hl4 ⊢;clear e8 hb
  try simp only [Act.put,dH,dI,dJ]
  go_wp2_with (first
   | (refine aM rfl 22 _ rfl .u8 w.heap.size 32 (dg 256 S) 5 dU dz rfl h3 ?_)
   | (refine aM rfl 22 _ rfl .u8 (w.heap.size+1) 32 (dg 256 P) 5 dU dz rfl h4 ?_)
   | (refine aM rfl 22 _ rfl .u8 x8 32 (dg 256 FI) 5 dU dz rfl h8 ?_))
  refine (RY.out _).mono ?_;rintro e w4 ⟨rfl,hb⟩;replace hbel:=hbel.trans (hb.mono hbel.size);clear hb h3 h4 h8;go_upto_region 3 with (refine aF rfl 22 _ _ rfl .u8 w4.heap.size 32 (fun _=> 0) (fun _=> 0) dz rfl rfl (bG rfl (by rfl)) ?_);refine aG (fun w5=> Below w.heap.size w w5) (aA (hbel.alloc hbel.size _) hbel.size _) ?_;clear hbel;rintro w5 hbel
  try simp only [Act.put,dH,dI,dJ]
  go_wp2;go_ret2;exact ⟨_,_,rfl,HR.out _,hbel⟩
 case neg=>
  have hk1:tV (mulN S P) (mulN S 9) P=rH (mulN S P) (mulN S 9) P:=by unfold tV;rw [if_neg hX]
  have hk2:oI (mulN S P)=0:=by unfold oI;rw [if_neg hX]
  rw [hk1,hk2] at RY;have HR:=ak (fun w u h=> RU.out w u 0 ⟨fun h=> absurd h hX,fun _=> ⟨rfl,h⟩⟩);obtain ⟨K,hK⟩:∃x,x=rH (mulN S P) (mulN S 9) P:=⟨_,rfl⟩
  rw [<-hK] at RY HSE HWF;obtain ⟨FI,VJ⟩:∃x,x=mulN S 9:=⟨_,rfl⟩
  rw [<-VJ] at HPU RY HWF;obtain ⟨SF,Sk⟩:∃x,x=ji K Az 0 Az n f:=⟨_,rfl⟩
  rw [<-Sk] at HSE HWF;obtain ⟨WF,hWF⟩:∃x,x=lU S P n f:=⟨_,rfl⟩
  rw [<-hWF] at HR HWF;clear hX hk1 hk2 VJ hK Sk hWF hv RU;have h28:¬ (1048528:Int)<(n:Int):=by omega
  clear hn
  go_enter Tryz.func65,Tryz.ntmps65
  go_upto_region 1 with (fail);refine aG (fun w1=> aH .u8 w1 w.heap.size 32 (dg 256 S)/\aH .u8 w1 (w.heap.size+1) 32 (dg 256 P)/\Below w.heap.size w w1) ⟨.alloc (bG rfl rfl) _,bG (by first | omega | (simp<;> omega)) rfl,((bM _ _).alloc (bB _) _).alloc (by first | omega | (simp<;> omega)) _⟩ ?_;rintro w1 ⟨h3,h4,hbel⟩;go_wp2_with (refine aM rfl 22 _ rfl .u8 w.heap.size 32 (dg 256 S) 5 dU dz rfl h3 ?_);refine (HPU.out _).mono ?_;rintro e w2 ⟨rfl,hb⟩;replace h3:=h3.kept hb;replace h4:=h4.kept hb;replace hbel:=hbel.trans (hb.mono hbel.size);have hl4:=h4.lt;clear hb;go_upto_region 2 with (refine aF rfl 22 _ _ rfl .u8 w2.heap.size 32 (fun _=> 0) (dg 256 FI) dz rfl rfl (bG rfl (by rfl)) ?_);refine aG (fun w3=> aH .u8 w3 w2.heap.size 32 (dg 256 FI)/\Below w2.heap.size w2 w3) ⟨(bG rfl (by rfl):aH .u8 _ _ 32 (fun _=> 0)).setRow _ _,aA ((bM _ _).alloc (bB _) _) (bB _) _⟩ ?_;rintro w3 ⟨h8,hb⟩;replace h3:=h3.kept hb;replace h4:=h4.kept hb;replace hbel:=hbel.trans (hb.mono hbel.size);obtain ⟨x8,e8⟩:∃x,x=w2.heap.size:=⟨_,rfl⟩
  rw [<-e8] at h8 hl4 ⊢;clear e8 hb
  try simp only [Act.put,dH,dI,dJ]
  go_wp2_with (first
   | (refine aM rfl 22 _ rfl .u8 w.heap.size 32 (dg 256 S) 5 dU dz rfl h3 ?_)
   | (refine aM rfl 22 _ rfl .u8 (w.heap.size+1) 32 (dg 256 P) 5 dU dz rfl h4 ?_)
   | (refine aM rfl 22 _ rfl .u8 x8 32 (dg 256 FI) 5 dU dz rfl h8 ?_))
  refine (RY.out _).mono ?_;rintro e w4 ⟨rfl,hb⟩;replace h8:=h8.kept hb;replace hbel:=hbel.trans (hb.mono hbel.size);have hl8:=h8.lt;clear hb h3 h4;go_upto_region 3 with (refine aF rfl 22 _ _ rfl .u8 w4.heap.size 32 (fun _=> 0) K dz rfl rfl (bG rfl (by rfl)) ?_);refine aG (fun w5=> aH .u8 w5 w4.heap.size 32 K/\Below w4.heap.size w4 w5) ⟨(bG rfl (by rfl):aH .u8 _ _ 32 (fun _=> 0)).setRow _ _,aA ((bM _ _).alloc (bB _) _) (bB _) _⟩ ?_;rintro w5 ⟨h9,hb⟩;replace h8:=h8.kept hb;replace hbel:=hbel.trans (hb.mono hbel.size);obtain ⟨x9,e9⟩:∃x,x=w4.heap.size:=⟨_,rfl⟩
  rw [<-e9] at h9 hl8 ⊢;clear e9 hb
  try simp only [Act.put,dH,dI,dJ]
  go_wp2_with (first
   | (refine aM rfl 22 _ rfl .u8 x9 32 K 5 dU dz rfl h9 ?_)
   | (refine dV rfl (dL rfl (HB0.out _ _)) ?_))
  refine (HSE.out _ _ (HT0.out.below hbel)).mono ?_;rintro e w6 ⟨u,rfl,hu,hb⟩;have HU:=ak hu.rd;replace h8:=h8.kept hb;replace hbel:=hbel.trans (hb.mono hbel.size);have hlo:∀i,i<32->WF i=dg 256 FI i:=fun i hi=> by rw [HWF.out];unfold fH;rw [if_pos hi]
  have hhi:∀i,i<n+16->WF (32+i)=SF i:=fun i _=> by rw [HWF.out];unfold fH;rw [if_neg (by omega),show 32+i - 32=i by omega]
  have HC8:Hid (∀i,i<32->w6.cell? ⟨x8,0+i,none⟩=some (.int .u8 (WF i))):=fun i hi=> by rw [hlo i hi,pF];exact h8.cell i hi
  have HHI:=ak hhi;have hnn:=Xw.out;clear hb hu h9 hl8 hlo hhi;go_wp2_with (at_builtin;refine yK rfl _ _ 23 rfl 5 .u8 1 kN sV x8 0 32 WF HC8.out rfl u (n+16) SF HU.out rfl (by omega) HHI.out (by omega) (by omega) ?_;intro v' w7 hr hb7);have HRR:=ak (HR.out _ _ hr);have OH:=hbel.trans (hb7.mono hbel.size);clear hr hb7 h8 hbel;go_wp2;go_ret2;exact ⟨_,_,rfl,HRR.out,OH⟩
def uW (f2:Nat->Int):Int:=sm 256 f2 32
def qE (T:Int) (f2:Nat->Int):Int:=mulN T (uW f2)
def LC (T:Int) (f2:Nat->Int):Nat->Int:=rH (qE T f2) (uW f2) (mulN T 9)
def tC (T:Int) (n:Nat) (f2:Nat->Int):Bool:=mV (LC T f2) Az 0 Az n (fun i=> f2 (32+i))
def LD (T:Int) (f2:Nat->Int):Nat->Int:=jQ (LC T f2) Az 1 (fun i=> f2 (32+i))
def UnR (T:Int) (n:Nat) (f2:Nat->Int) (w:World) (u:Value) (er:Int):Prop:=(qE T f2=0->u=.slice none 0 0/\er=21)/\(qE T f2≠0->(tC T n f2=false->u=.slice none 0 0/\er=20)/\(tC T n f2=true->er=0/\Rd .u8 w u n (LD T f2)))
theorem Bn (T:Int) (v:Value) (n:Nat) (f:Nat->Int) (w:World) (hv:Rd .u8 w v n f) (hn:n<48):
  Calls Tryz.prog 75 #[.agg (arr .u8 32 (dg 256 T)),v] w fun e w'=> e=.returned (.tuple #[.slice none 0 0,.int .i64 10])/\Below w.heap.size w w':=by
 obtain ⟨ta,tc,ev,_⟩:=id hv;subst ev;have h48:(n:Int)<48:=by omega
 clear hv hn
 go_enter Tryz.func75,Tryz.ntmps75
 go_wp2;go_ret2;exact ⟨rfl,(bM _ _).alloc (bB _) _⟩
theorem GL (T:Int) (v:Value) (n N:Nat) (hN:N=n+48) (f:Nat->Int) (w:World) (hv:Rd .u8 w v N f) (hn:n<=400) (hf:∀i,i<N->0<=f i/\f i<256):
  Calls Tryz.prog 75 #[.agg (arr .u8 32 (dg 256 T)),v] w fun e w'=> ∃u er,e=.returned (.tuple #[u,.int .i64 er])/\UnR T n f w' u er/\Below w.heap.size w w':=by
 have HPU:=ak (fun w=> pW T w);have RY:Hid (∀w,Calls Tryz.prog 118 #[.agg (arr .u8 32 (dg 256 T)),.agg (arr .u8 32 (dg 256 (uW f))),.agg (arr .u8 32 (dg 256 (uW f))),.agg (arr .u8 32 (dg 256 (mulN T 9)))] w fun e w'=> e=.returned (.tuple #[.agg (arr .u8 32 (tV (qE T f) (uW f) (mulN T 9))),.int .i64 (oI (qE T f))])/\Below w.heap.size w w'):=fun w=> ED T (uW f) (uW f) (mulN T 9) w
 have HOP:Hid (∀w u,Rd .u8 w u (n+16) (fun i=> f (32+i))->Calls Tryz.prog 78 #[.agg (arr .u8 32 (LC T f)),.agg (arr .u8 12 (fun _=> 0)),.slice none 0 0,u] w fun e w'=> ∃v,e=.returned v/\OpR (tC T n f) w' v n (LD T f)/\Below w.heap.size w w'):=fun w u h=>
  EL _ Az (WT _ _ _) (fun i _=> by unfold Az;decide) _ u 0 n Az _ w (Rd.nil _ _ _) h (fun i hi=> absurd hi (by omega)) (fun i hi=> hf (32+i) (by omega)) (by decide) (by omega)
 have HB0:=ak (fun (a:Act) w=> EF (a:=a) w);have HFQ:Hid (arr .u8 32 f=arr .u8 32 (dg 256 (uW f))):=eF fun i hi=> (rF (by decide) (fun i hi=> hf i (by omega)) i hi).symm;have RU:Hid (∀w u er,((qE T f=0->u=.slice none 0 0/\er=21)/\(qE T f≠0->(tC T n f=false->u=.slice none 0 0/\er=20)/\(tC T n f=true->er=0/\Rd .u8 w u n (LD T f))))->UnR T n f w u er):=fun w u er h=> h;have HV0:=ak hv;obtain ⟨ta,tc,ev,hc1,hc2,_,_⟩:=id hv;subst ev;have G1:=ak (Rd.head (P:=Tryz.prog) kN sV ta N tc 32 (by omega) hc1);obtain ⟨a2,g1,g2,g3⟩:=Rd.cut (P:=Tryz.prog) kN sV ta N tc 32 N (by omega) (bB _) hc1;have G2:=ak g2;have HRS:Hid (∀w,Rd .u8 w (.slice ta N tc) N f->Rd .u8 w (.slice a2 (N - 32) (tc - 32)) (n+16) (fun i=> f (32+i))):=fun w h=> by have h2:=(g3 w f h).2;rwa [show N - 32=n+16 by omega] at h2 ⊢
 obtain ⟨b1,o1,q1,l1,c1⟩:=(G1.out.2 _ _ hv).Gs (by decide);subst q1;have wM:=ak c1;have h48:¬ (N:Int)<48:=by omega
 have hbig:¬ (1048576:Int)<(N:Int):=by omega
 have HKE:Hid (tV (qE T f) (uW f) (mulN T 9)=if qE T f=0 then (fun _=> 0) else LC T f):=rfl;have RZ:Hid (oI (qE T f)=if qE T f=0 then 21 else 0):=rfl;obtain ⟨KR,hKR⟩:∃x,x=tV (qE T f) (uW f) (mulN T 9):=⟨_,rfl⟩
 obtain ⟨er,her⟩:∃x,x=oI (qE T f):=⟨_,rfl⟩
 rw [<-hKR] at RY HKE;rw [<-her] at RY RZ;obtain ⟨ok,hok⟩:∃x,x=tC T n f:=⟨_,rfl⟩
 rw [<-hok] at HOP RU;obtain ⟨H,hH⟩:∃x,x=LD T f:=⟨_,rfl⟩
 rw [<-hH] at HOP RU;obtain ⟨K,hK⟩:∃x,x=LC T f:=⟨_,rfl⟩
 rw [<-hK] at HOP HKE;obtain ⟨X,hX⟩:∃x,x=qE T f:=⟨_,rfl⟩
 rw [<-hX] at HKE RZ RU;obtain ⟨FI,VJ⟩:∃x,x=uW f:=⟨_,rfl⟩
 rw [<-VJ] at RY HFQ;obtain ⟨PT,hPT⟩:∃x,x=mulN T 9:=⟨_,rfl⟩
 rw [<-hPT] at HPU RY;clear hN hKR her hok hH hK hX VJ hPT g1 g2 g3 c1 hv hf hc1 hc2 hn
 go_enter Tryz.func75,Tryz.ntmps75
 go_upto_region 1 with (fail);refine aG (fun w1=> aH .u8 w1 w.heap.size 32 (dg 256 T)/\Below w.heap.size w w1) ⟨bG rfl rfl,(bM _ _).alloc (bB _) _⟩ ?_;rintro w1 ⟨h2,hbel⟩;have l1':b1<w1.heap.size:=uK l1 hbel.size;have Xy:Hid (∀i,i<32->w1.cell? ⟨b1,o1+i,none⟩=some (.int .u8 (f i))):=fun i hi=> (hbel.cell (p:=⟨b1,o1+i,none⟩) l1).trans (wM.out i hi);clear wM l1;go_upto_region 5 with (fail)
 refine aT (n:=40) (by kernel_rfl) (by kernel_rfl) (by kernel_rfl) rfl
  (gJ [(5,4)]) (dS [(5,4)]) (fun _=> arr .u8 32 (fun _=> 0)) (fun _=> (arr .u8 32 (dg 256 FI))) (fun _=> 22) (fun _=> 6)
  (fun ii vv _=> (match ii with | 0=> vv=.slice (some ⟨b1,o1,none⟩) N tc | 1=> vv=.slice (some ⟨b1,o1,none⟩) 32 tc | 2=> vv=.pointer (some ⟨b1,o1,none⟩) | 3=> vv=.agg (arr .u8 32 (dg 256 FI)) | _=> True)) (fun _ _=> True) (fun _ _ _=> trivial) (fun _ _ _ _ _ _ _=> trivial) (fun _ _ _ _ h _=> h)
  (eT rfl) (dA rfl) ?_ ?_ ?_ ?_
 ·refine bQ ?_;refine ⟨?_,?_,?_,?_,(fun h=> by cases h),(fun _ h=> by cases h),trivial⟩
  ·intro _ _ a w2 hB hF hd;exact aJ <| fq rfl (hF.same 1 rfl)
  ·intro _ _ a w2 hB hF hd;exact aJ <| aO (bP rfl (hd 0 _ rfl rfl rfl (aj rfl)) (by simp only [Option.map_some,Option.map_none];exact G1.out.1 _)) rfl
  ·intro _ _ a w2 hB hF hd;exact aJ <| aO (gF rfl (hd 1 _ rfl rfl rfl (aj rfl)) dU (by decide)) rfl
  ·intro _ _ a w2 hB hF hd;exact aJ <| aO (fD rfl (hd 2 _ rfl rfl rfl (aj rfl)) dU dz (fun i hi=> (hB.cell (p:=⟨b1,o1+i,none⟩) l1').trans (Xy.out i hi))) (congrArg Value.agg HFQ.out)
 ·refine bQ ?_;refine ⟨(fun h=> by cases h),(fun h=> by cases h),(fun h=> by cases h),(fun h=> by cases h),?_,(fun h=> by cases h),trivial⟩
  ·exact fun _=> ⟨rfl,rfl,fun a w2 K h=> aP rfl rfl Tryz.zeroValue22 (by simp) h⟩
 ·refine bQ ?_;refine ⟨(fun _ h=> by cases h),(fun _ h=> by cases h),(fun _ h=> by cases h),(fun _ h=> by cases h),(fun _ h=> by cases h),?_,trivial⟩
  ·intro p hp;obtain rfl:4=p:=fT hp;exact ⟨rfl,rfl,⟨_,rfl⟩,aj rfl,fun a w2 b K hB hF hd hx hb h=> aY rfl rfl dz hx (hd 3 _ rfl rfl rfl (aj rfl)) hb h⟩
 ·intro a w2 blk hB hF hS hv hfin bU;obtain ⟨v4,Hq,LA⟩:=hv 4 _ rfl rfl;have ha:=aI rfl rfl hF [_,_,_,_,_,undef] rfl ⟨hS 0 _ rfl rfl rfl,hS 1 _ rfl rfl rfl,hS 2 _ rfl rfl rfl,hS 3 _ rfl rfl rfl,v4,trivial,trivial⟩;have f4:=hfin 5 _ 4 rfl rfl;simp only [puts,Act.put,dH,dI,dJ] at ha;subst ha;have V4:aH .u8 w2 (blk 4) 32 (dg 256 FI):=⟨_,f4⟩
  clear hS hv hfin bU hF v4 f4;replace h2:=h2.kept hB;replace hbel:=hbel.trans (hB.mono hbel.size);obtain ⟨x6,e6⟩:∃x,x=blk 4:=⟨_,rfl⟩
  rw [<-e6] at V4 ⊢;have h6:=V4;clear e6 hB V4 Hq LA l1' Xy;go_upto_region 6 with (fail)
  refine aT (n:=40) (by kernel_rfl) (by kernel_rfl) (by kernel_rfl) rfl
   (gJ [(10,9)]) (dS [(10,9)]) (fun _=> arr .u8 32 (fun _=> 0)) (fun _=> (arr .u8 32 (KR))) (fun _=> 22) (fun _=> 7)
   (fun ii vv _=> (match ii with | 0 | 3=> vv=.agg (arr .u8 32 (dg 256 T)) | 1 | 2=> vv=.agg (arr .u8 32 (dg 256 FI)) | 4=> vv=.agg (arr .u8 32 (dg 256 PT)) | 5 | 6=> vv=.tuple #[.agg (arr .u8 32 (KR)),.int .i64 (er)] | 7=> vv=.agg (arr .u8 32 (KR)) | 8 | 11=> vv=.int .i64 (er) | _=> True)) (fun _ _=> True) (fun _ _ _=> trivial) (fun _ _ _ _ _ _ _=> trivial) (fun _ _ _ _ h _=> h)
   (eT rfl) (dA rfl) ?_ ?_ ?_ ?_
  ·refine bQ ?_;refine ⟨?_,?_,?_,?_,?_,?_,?_,?_,?_,(fun h=> by cases h),(fun _ h=> by cases h),?_,trivial⟩
   ·intro _ _ a w2 hB hF hd;exact aJ <| aO (aB rfl dU rfl dz (hF.same 2 rfl) (h2.below hB h2.lt)) rfl
   ·intro _ _ a w2 hB hF hd;exact aJ <| aO (aB rfl dU rfl dz (hF.same 6 rfl) (h6.below hB h6.lt)) rfl
   ·intro _ _ a w2 hB hF hd;exact aJ <| aO (aB rfl dU rfl dz (hF.same 6 rfl) (h6.below hB h6.lt)) rfl
   ·intro _ _ a w2 hB hF hd;exact aJ <| aO (aB rfl dU rfl dz (hF.same 2 rfl) (h2.below hB h2.lt)) rfl
   ·intro _ _ a w2 hB hF hd;refine aJ <| aD _ _ _ rfl Tryz.call90 _ (args1 (hd 3 _ rfl rfl rfl (aj rfl))) (by simp) ((HPU.out w2).mono ?_);rintro e w3 ⟨rfl,hb⟩;exact ⟨_,rfl,rfl,hb⟩
   ·intro _ _ a w2 hB hF hd;refine aJ <| aD _ _ _ rfl Tryz.call118 _ (tX (hd 0 _ rfl rfl rfl (aj rfl)) (hd 1 _ rfl rfl rfl (aj rfl)) (hd 2 _ rfl rfl rfl (aj rfl)) (hd 4 _ rfl rfl rfl (aj rfl))) (by simp) ((RY.out w2).mono ?_);rintro e w3 ⟨rfl,hb⟩;exact ⟨_,rfl,rfl,hb⟩
   ·intro _ _ a w2 hB hF hd;exact aJ <| fq rfl (hd 5 _ rfl rfl rfl (aj rfl))
   ·intro _ _ a w2 hB hF hd;exact aJ <| aO (bD rfl (hd 6 _ rfl rfl rfl (aj rfl)) rfl) rfl
   ·intro _ _ a w2 hB hF hd;exact aJ <| aO (bD rfl (hd 6 _ rfl rfl rfl (aj rfl)) rfl) rfl
   ·intro _ _ a w2 hB hF hd;exact aJ <| pE rfl (hd 8 _ rfl rfl rfl (aj rfl))
  ·refine bQ ?_;refine ⟨(fun h=> by cases h),(fun h=> by cases h),(fun h=> by cases h),(fun h=> by cases h),(fun h=> by cases h),(fun h=> by cases h),(fun h=> by cases h),(fun h=> by cases h),(fun h=> by cases h),?_,(fun h=> by cases h),(fun h=> by cases h),trivial⟩
   ·exact fun _=> ⟨rfl,rfl,fun a w2 K h=> aP rfl rfl Tryz.zeroValue22 (by simp) h⟩
  ·refine bQ ?_;refine ⟨(fun _ h=> by cases h),(fun _ h=> by cases h),(fun _ h=> by cases h),(fun _ h=> by cases h),(fun _ h=> by cases h),(fun _ h=> by cases h),(fun _ h=> by cases h),(fun _ h=> by cases h),(fun _ h=> by cases h),(fun _ h=> by cases h),?_,(fun _ h=> by cases h),trivial⟩
   ·intro p hp;obtain rfl:9=p:=fT hp;exact ⟨rfl,rfl,⟨_,rfl⟩,aj rfl,fun a w2 b K hB hF hd hx hb h=> aY rfl rfl dz hx (hd 7 _ rfl rfl rfl (aj rfl)) hb h⟩
  ·intro a w3 blk hB hF hS hv hfin bU;obtain ⟨v9,v9l,v9u⟩:=hv 9 _ rfl rfl;have ha:=aI rfl rfl hF [_,_,_,_,_,_,_,_,_,_,undef,_] rfl ⟨hS 0 _ rfl rfl rfl,hS 1 _ rfl rfl rfl,hS 2 _ rfl rfl rfl,hS 3 _ rfl rfl rfl,hS 4 _ rfl rfl rfl,hS 5 _ rfl rfl rfl,hS 6 _ rfl rfl rfl,hS 7 _ rfl rfl rfl,hS 8 _ rfl rfl rfl,v9,trivial,hS 11 _ rfl rfl rfl,trivial⟩;have f9:=hfin 10 _ 9 rfl rfl;simp only [puts,Act.put,dH,dI,dJ] at ha;subst ha;have V9:aH .u8 w3 (blk 9) 32 (KR):=⟨_,f9⟩
   clear hS hv hfin bU hF v9 f9;replace hbel:=hbel.trans (hB.mono hbel.size);obtain ⟨x7,e7⟩:∃x,x=blk 9:=⟨_,rfl⟩
   rw [<-e7] at V9 ⊢;have h7:=V9;clear e7 hB V9 v9l v9u h2 h6;by_cases hX:X=0
   case pos=>
    obtain rfl:er=21:=by rw [RZ.out,if_pos hX]
    have HR:=ak (RU.out w3 (.slice none 0 0) 21 ⟨fun _=> ⟨rfl,rfl⟩,fun h=> absurd hX h⟩);clear hX HKE RZ RU;go_wp2;go_ret2;exact ⟨_,_,rfl,HR.out,hbel⟩
   case neg=>
    obtain rfl:er=0:=by rw [RZ.out,if_neg hX]
    obtain rfl:KR=K:=by rw [HKE.out,if_neg hX]
    have HR1:Hid (ok=false->∀w,UnR T n f w (.slice none 0 0) 20):=fun ho w=> RU.out w _ _ ⟨fun h=> absurd h hX,fun _=> ⟨fun _=> ⟨rfl,rfl⟩,fun h=> (by rw [ho] at h;cases h)⟩⟩;have HR2:Hid (ok=true->∀w u,Rd .u8 w u n H->UnR T n f w u 0):=fun ho w u hu=> RU.out w _ _ ⟨fun h=> absurd h hX,fun _=> ⟨fun h=> (by rw [ho] at h;cases h),fun _=> ⟨rfl,hu⟩⟩⟩;clear hX HKE RZ RU;go_upto_region 9 with (fail);cases ok
    case false=>
     have Ld:Hid (∀w u,Rd .u8 w u (n+16) (fun i=> f (32+i))->Calls Tryz.prog 78 #[.agg (arr .u8 32 KR),.agg (arr .u8 12 (fun _=> 0)),.slice none 0 0,u] w fun e w'=> e=.returned (.tuple #[.slice none 0 0,.int .i64 20])/\Below w.heap.size w w'):=fun w u h=> by
      refine (HOP.out w u h).mono ?_;rintro e w' ⟨v,rfl,ho,hb⟩;rw [ho.2 rfl];exact ⟨rfl,hb⟩
     refine aR (n:=40) (by kernel_rfl) (by kernel_rfl) (by kernel_rfl) rfl
      (fun ii vv _=> (match ii with | 0=> vv=.agg (arr .u8 32 (KR)) | 1=> vv=.agg (arr .u8 12 (fun _=> 0)) | 2=> vv=.slice (some ⟨b1,o1,none⟩) N tc | 3=> vv=.slice a2 (N - 32) (tc - 32) | 4=> vv=.tuple #[.slice none 0 0,.int .i64 (20)] | 5 | 7=> vv=.slice none 0 0 | 6 | 8=> vv=.int .i64 (20) | _=> True))
      (fun w w'=> Below w.heap.size w w') (fun _ _ h=> h) (fun _ _ _ _ h _=> h) ?_ ?_
     ·refine bQ ?_;refine ⟨?_,?_,?_,?_,?_,?_,?_,?_,?_,trivial⟩
      ·intro a w2 hB hF hd;exact aJ <| aO (aB rfl dU rfl dz (hF.same 7 rfl) (h7.below hB h7.lt)) rfl
      ·intro a w2 hB hF hd;exact aJ <| aO (dL rfl (HB0.out _ _)) rfl
      ·intro a w2 hB hF hd;exact aJ <| fq rfl (hF.same 1 rfl)
      ·intro a w2 hB hF hd;exact aJ <| aO (bP rfl (hd 2 _ rfl (aj rfl)) (by simp only [Option.map_some,Option.map_none];exact G2.out _)) rfl
      ·intro a w2 hB hF hd;refine aJ <| aD _ _ _ rfl Tryz.call78 _ (tX (hd 0 _ rfl (aj rfl)) (hd 1 _ rfl (aj rfl)) rfl (hd 3 _ rfl (aj rfl))) (by simp) ((Ld.out w2 _ (HRS.out _ ((HV0.out.below hbel).below hB))).mono ?_);rintro e w3 ⟨rfl,hb⟩;exact ⟨_,rfl,rfl,hb⟩
      ·intro a w2 hB hF hd;exact aJ <| aO (bD rfl (hd 4 _ rfl (aj rfl)) rfl) rfl
      ·intro a w2 hB hF hd;exact aJ <| aO (bD rfl (hd 4 _ rfl (aj rfl)) rfl) rfl
      ·intro a w2 hB hF hd;exact aJ <| pE rfl (hd 5 _ rfl (aj rfl))
      ·intro a w2 hB hF hd;exact aJ <| pE rfl (hd 6 _ rfl (aj rfl))
     ·intro a w4 hB hF hS;have ha:=aI rfl rfl hF [_,_,_,_,_,_,_,_,_] rfl ⟨hS 0 _ rfl,hS 1 _ rfl,hS 2 _ rfl,hS 3 _ rfl,hS 4 _ rfl,hS 5 _ rfl,hS 6 _ rfl,hS 7 _ rfl,hS 8 _ rfl,trivial⟩;simp only [puts,Act.put,dH,dI,dJ] at ha;subst ha;clear hS hF;have hb4:=hbel.trans (hB.mono hbel.size);go_wp2;go_ret2;exact ⟨_,_,rfl,HR1.out (by trivial) _,hb4⟩
    case true=>
     have Ld:Hid (∀w u,Rd .u8 w u (n+16) (fun i=> f (32+i))->Calls Tryz.prog 78 #[.agg (arr .u8 32 KR),.agg (arr .u8 12 (fun _=> 0)),.slice none 0 0,u] w fun e w'=> ∃v,e=.returned v/\ql w' v n H/\Below w.heap.size w w'):=fun w u h=> by
      refine (HOP.out w u h).mono ?_;rintro e w' ⟨v,rfl,ho,hb⟩;exact ⟨v,rfl,ho.1 rfl,hb⟩
     refine aR (n:=40) (by kernel_rfl) (by kernel_rfl) (by kernel_rfl) rfl
      (fun ii vv ww=> (match ii with | 0=> vv=.agg (arr .u8 32 (KR)) | 1=> vv=.agg (arr .u8 12 (fun _=> 0)) | 2=> vv=.slice (some ⟨b1,o1,none⟩) N tc | 3=> vv=.slice a2 (N - 32) (tc - 32) | 6 | 8=> vv=.int .i64 (0) | _=> True)/\(ii=4->ql ww vv n (H))/\(ii=5->Rd .u8 ww vv n (H))/\(ii=7->Rd .u8 ww vv n (H)))
      (fun w w'=> Below w.heap.size w w') (fun _ _ h=> h) (fun i v w w' h hE=> ⟨h.1,fun e=> ql.below (h.2.1 e) hE,fun e=> Rd.below (h.2.2.1 e) hE,fun e=> Rd.below (h.2.2.2 e) hE⟩) ?_ ?_
     ·refine bQ ?_;refine ⟨?_,?_,?_,?_,?_,?_,?_,?_,?_,trivial⟩
      ·intro a w2 hB hF hd;exact aJ <| aO (aB rfl dU rfl dz (hF.same 7 rfl) (h7.below hB h7.lt)) ⟨rfl,aK,aK,aK⟩
      ·intro a w2 hB hF hd;exact aJ <| aO (dL rfl (HB0.out _ _)) ⟨rfl,aK,aK,aK⟩
      ·intro a w2 hB hF hd;exact aJ <| fq rfl ⟨(hF.same 1 rfl),aK,aK,aK⟩
      ·intro a w2 hB hF hd;exact aJ <| aO (bP rfl ((hd 2 _ rfl (aj rfl)).1) (by simp only [Option.map_some,Option.map_none];exact G2.out _)) ⟨rfl,aK,aK,aK⟩
      ·intro a w2 hB hF hd;refine aJ <| aD _ _ _ rfl Tryz.call78 _ (tX ((hd 0 _ rfl (aj rfl)).1) ((hd 1 _ rfl (aj rfl)).1) rfl ((hd 3 _ rfl (aj rfl)).1)) (by simp) ((Ld.out w2 _ (HRS.out _ ((HV0.out.below hbel).below hB))).mono ?_);rintro e w3 ⟨u,rfl,hr,hb⟩;exact ⟨u,rfl,⟨trivial,fun _=> hr,aK,aK⟩,hb⟩
      ·intro a w2 hB hF hd;rw [if_pos (dD rfl)];obtain ⟨u_,Gx,OE⟩:=((hd 4 _ rfl (aj rfl)).2.1 rfl)
       exact aO (bD rfl Gx rfl) ⟨trivial,aK,fun _=> (OE),aK⟩
      ·intro a w2 hB hF hd;rw [if_pos (dD rfl)];obtain ⟨u_,Gx,OE⟩:=((hd 4 _ rfl (aj rfl)).2.1 rfl)
       exact aO (bD rfl Gx rfl) ⟨rfl,aK,aK,aK⟩
      ·intro a w2 hB hF hd;exact aJ <| pE rfl ⟨trivial,aK,aK,fun _=> ((hd 5 _ rfl (aj rfl)).2.2.1 rfl)⟩
      ·intro a w2 hB hF hd;exact aJ <| pE rfl ⟨((hd 6 _ rfl (aj rfl)).1),aK,aK,aK⟩
     ·intro a w4 hB hF hS;obtain ⟨x37,QG⟩:∃x,x=a.tmps.getD 37 undef:=⟨_,rfl⟩
      have P37:ql w4 x37 n (H):=by rw [QG];exact (hS 4 _ rfl).2.1 rfl
      obtain ⟨x38,hx38⟩:∃x,x=a.tmps.getD 38 undef:=⟨_,rfl⟩
      have P38:Rd .u8 w4 x38 n (H):=by rw [hx38];exact (hS 5 _ rfl).2.2.1 rfl
      obtain ⟨x4,hx4⟩:∃x,x=a.tmps.getD 4 undef:=⟨_,rfl⟩
      have P4:Rd .u8 w4 x4 n (H):=by rw [hx4];exact (hS 7 _ rfl).2.2.2 rfl
      have ha:=aI rfl rfl hF [_,_,_,_,x37,x38,_,x4,_] rfl ⟨(hS 0 _ rfl).1,(hS 1 _ rfl).1,(hS 2 _ rfl).1,(hS 3 _ rfl).1,QG.symm,hx38.symm,(hS 6 _ rfl).1,hx4.symm,(hS 8 _ rfl).1,trivial⟩;simp only [puts,Act.put,dH,dI,dJ] at ha;subst ha;clear QG hx38 hx4;clear hS hF;have hb4:=hbel.trans (hB.mono hbel.size);have HR:=ak (HR2.out (by trivial) _ _ P4);clear P4 P37 P38;go_wp2;go_ret2;exact ⟨_,_,rfl,HR.out,hb4⟩
theorem zy (S U:Int):0<=mulN S U/\mulN S U<256 ^ 32:=by
 have h0:=Int.emod_nonneg (iX (eD S) (U % 2 ^ 255)) (show Pr≠0 by decide);have h1:=BI (iX (eD S) (U % 2 ^ 255)) Hl;have h2:Pr<=256 ^ 32:=by decide
 exact ⟨h0,Int.lt_of_lt_of_le h1 h2⟩
theorem Pg (S P:Int) (n:Nat) (f:Nat->Int):uW (lU S P n f)=mulN S 9:=by
 have h:sm 256 (lU S P n f) 32=sm 256 (dg 256 (mulN S 9)) 32:=gB fun i hi=> sM hi;unfold uW;rw [h,jF (by decide),sS (zy S 9).1 (zy S 9).2]
theorem XI (S P:Int) (n:Nat) (f:Nat->Int) (i:Nat):0<=lU S P n f i/\lU S P n f i<256:=by
 unfold lU fH
 split
 ·exact aX (by decide) _ _
 ·exact qO _ _ _ _ _ _ _
theorem XH (S P:Int) (n:Nat) (f:Nat->Int):(fun i=> lU S P n f (32+i))=ji (rH (mulN S P) (mulN S 9) P) Az 0 Az n f:=funext fun _=> nV _
theorem abZ (S T:Int):mulN T (mulN S 9)=mulN S (mulN T 9):=KF T S (9 % 2 ^ 255)
end Go.Proofs.YtpcjekgfnfjbpaaGreat
