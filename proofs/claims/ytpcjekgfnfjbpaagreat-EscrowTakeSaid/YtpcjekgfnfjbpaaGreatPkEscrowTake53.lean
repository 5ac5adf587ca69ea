/-
  Part 53 of EscrowTake. Conditions: named in each theorem.
-/
import Derived.Test.YtpcjekgfnfjbpaaGreatPkEscrowTake46
import Derived.Test.YtpcjekgfnfjbpaaGreatPkEscrowTake51
import Derived.Test.YtpcjekgfnfjbpaaGreatPkEscrowTake35
set_option linter.unusedVariables false
set_option linter.unusedSimpArgs false
set_option maxRecDepth 100000
set_option maxHeartbeats 6400000
namespace Go.aZ
open Go.RowKit
def Mf (w:World) (v:Value) (T:TypeId) (n:Nat) (cs:Array Value):Prop:=∃b,v=.slice (some ⟨b,0,none⟩) n n/\w.heap[b]? =some (.cells cs T (0,0))
theorem Mf.below {w w':World} {v:Value} {T:TypeId} {n:Nat} {cs:Array Value} (h:Mf w v T n cs) (hb:Below w.heap.size w w'):Mf w' v T n cs:=by
 obtain ⟨b,e,h⟩:=h;exact ⟨b,e,by rw [hb.block b (Array.getElem?_eq_some_iff.1 h).1];exact h⟩
theorem Mf.aiD {w:World} {v v1 v2:Value} {T:TypeId} {n m:Nat} {f g:Nat->Int} (h:Mf w v T 2 [v1,v2].toArray) (h1:Rd .u8 w v1 n f) (h2:Rd .u8 w v2 m g):
  qM w v 2 (jy 1 (fun _=> n) (fun _=> m)) (lG 1 (fun _=> f) (fun _=> g)):=by
 obtain ⟨b,rfl,h⟩:=h;refine ⟨_,_,rfl,bA _,by decide,fun _=> ⟨b,0,rfl,(Array.getElem?_eq_some_iff.1 h).1,fun j hj=> ?_⟩⟩;rw [pz,cell_of_row _ _ _ _ T (0,0) h];rcases (by omega:j=0\/j=1) with rfl | rfl
 ·exact ⟨v1,rfl,h1⟩
 ·exact ⟨v2,rfl,h2⟩
end Go.aZ
namespace Go.Proofs.YtpcjekgfnfjbpaaGreat
open Go.RowKit Go.aZ Go.ChangeShapes
attribute [local go_sem ↓] Go.wp_at_zero Go.wp_at_succ
def Vx:ByteArray:=⟨#[98,111,120]⟩
def Qc:Nat->Nat:=jy 1 (fun _=> 32) (fun _=> 32)
def Vz (F P:Int):Nat->Nat->Int:=lG 1 (fun _=> dg 256 F) (fun _=> dg 256 P)
def qJ (X F P:Int):Nat->Int:=Dr 32 (dg 256 X) (rM Vx.size Qc 2) (zJ Vx.size (rH Vx) Qc (Vz F P) 2)
theorem Vy (X F P:Int):∀i,i<32->0<=qJ X F P i/\qJ X F P i<256:=fun i _=> yT _ _ _ _ i
theorem YD:∀j,j<2->Qc j<=4000:=by intro j hj;rcases (by omega:j=0\/j=1) with rfl | rfl<;> decide
theorem acY (F P:Int):∀j,j<2->∀i,i<Qc j->0<=Vz F P j i/\Vz F P j i<256:=by
 intro j hj i _;rcases (by omega:j=0\/j=1) with rfl | rfl
 ·exact bE (by decide) _ _
 ·exact bE (by decide) _ _
theorem Vt (X F P:Int) (v t:Value) (w:World) (hv:Rd .u8 w v 32 (dg 256 X)) (ht:qM w t 2 Qc (Vz F P)):
  Calls Tryz.prog 120 #[v,.string Vx,t] w fun e w'=> e=.returned (.tuple #[.agg (arr .u8 32 (qJ X F P)),.int .i64 0])/\Below w.heap.size w w':=
 IU v 32 (dg 256 X) Vx t 2 Qc (Vz F P) w hv (by decide) (by decide) (fun i _=> bE (by decide) _ _) (by decide) ht (by decide) YD (acY F P)
theorem Qb {a:Act} (w:World):(Instr.build 22 ((#[] :Array (Nat × Operand)).map fun (i,x)=> (i,a.eval x))).run Tryz.prog w=.ok (.agg (arr .u8 32 (fun _=> 0))) w:=Go.run_build w _ _ _ (by kernel_rfl)
theorem CW {a:Act} (w:World):(Instr.build 35 ((#[] :Array (Nat × Operand)).map fun (i,x)=> (i,a.eval x))).run Tryz.prog w=.ok (.agg (arr .u8 12 (fun _=> 0))) w:=Go.run_build w _ _ _ (by kernel_rfl)
def sG (X F P:Int):Nat->Int:=if X=0 then fun _=> 0 else qJ X F P
theorem CV (S O F P:Int) (w:World):Calls Tryz.prog 118 #[.agg (arr .u8 32 (dg 256 S)),.agg (arr .u8 32 (dg 256 O)),.agg (arr .u8 32 (dg 256 F)),.agg (arr .u8 32 (dg 256 P))] w fun e w'=>
  e=.returned (.tuple #[.agg (arr .u8 32 (sG (mulN S O) F P)),.int .i64 (ow (mulN S O))])/\Below w.heap.size w w':=by
 have HSH:=ak (fun w=> Eo S O w);have HP0:=ak (fun (a:Act) w=> Qb (a:=a) w);have HDR:=ak (fun w v t=> Vt (mulN S O) F P v t w);have HE:Hid (ow (mulN S O)=if mulN S O=0 then 21 else 0):=rfl;have HK:Hid (sG (mulN S O) F P=if mulN S O=0 then (fun _=> 0) else qJ (mulN S O) F P):=rfl;obtain ⟨X,hX⟩:∃X,X=mulN S O:=⟨_,rfl⟩
 rw [<-hX] at HSH HDR HE HK ⊢;obtain ⟨er,her⟩:∃er,er=ow X:=⟨_,rfl⟩
 rw [<-her] at HSH HE ⊢;obtain ⟨KK,hKK⟩:∃K,K=qJ X F P:=⟨_,rfl⟩
 rw [<-hKK] at HDR HK;obtain ⟨KR,hKR⟩:∃K,K=sG X F P:=⟨_,rfl⟩
 rw [<-hKR] at HK ⊢;clear hX her hKK hKR
 go_enter Tryz.func118,Tryz.ntmps118
 go_upto_region 1 with (fail)
 refine aD (fun w1=> aF .u8 w1 w.heap.size 32 (dg 256 S)/\aF .u8 w1 (w.heap.size+1) 32 (dg 256 O)/\aF .u8 w1 (w.heap.size+2) 32 (dg 256 F)/\aF .u8 w1 (w.heap.size+3) 32 (dg 256 P)/\aF .u8 w1 (w.heap.size+4) 32 (fun _=> 0)/\Below w.heap.size w w1)
  ⟨.alloc (.alloc (.alloc (.alloc (bM rfl rfl) _) _) _) _,.alloc (.alloc (.alloc (bM (by first | omega | (simp<;> omega)) rfl) _) _) _,.alloc (.alloc (bM (by first | omega | (simp<;> omega)) rfl) _) _,.alloc (bM (by first | omega | (simp<;> omega)) rfl) _,bM (by first | omega | (simp<;> omega)) (by rfl),(((((bN _ _).alloc (bA _) _).alloc (by first | omega | (simp<;> omega)) _).alloc (by first | omega | (simp<;> omega)) _).alloc (by first | omega | (simp<;> omega)) _).alloc (by first | omega | (simp<;> omega)) _⟩ ?_
 rintro w1 ⟨h4,h5,h6,h7,h8,hbel⟩;go_wp2_with (first | (refine aQ rfl 22 _ rfl .u8 w.heap.size 32 (dg 256 S) 5 gH eT rfl h4 ?_) | (refine aQ rfl 22 _ rfl .u8 (w.heap.size+1) 32 (dg 256 O) 5 gH eT rfl h5 ?_));refine (HSH.out _).mono ?_;rintro e w2 ⟨rfl,hb⟩;replace h6:=h6.kept hb;replace h7:=h7.kept hb;replace h8:=h8.kept hb;replace hbel:=hbel.trans (hb.mono hbel.size);have Zw:=h8.lt;clear hb h4 h5;go_upto_region 2 with (refine aG rfl 22 _ _ rfl .u8 w2.heap.size 32 (fun _=> 0) (dg 256 X) eT rfl rfl (bM rfl (by rfl)) ?_);refine aD (fun w3=> aF .u8 w3 w2.heap.size 32 (dg 256 X)/\Below w2.heap.size w2 w3) ⟨(bM rfl (by rfl):aF .u8 _ _ 32 (fun _=> 0)).setRow _ _,ay ((bN _ _).alloc (bA _) _) (bA _) _⟩ ?_;rintro w3 ⟨h10,hb⟩;replace h6:=h6.kept hb;replace h7:=h7.kept hb;replace h8:=h8.kept hb;replace hbel:=hbel.trans (hb.mono hbel.size);obtain ⟨x10,e10⟩:∃x,x=w2.heap.size:=⟨_,rfl⟩
 rw [<-e10] at h10 Zw ⊢;clear e10 hb
 try simp only [Act.put,dQ,dR,dS]
 by_cases hX:X=0
 case pos=>
  obtain rfl:er=21:=by rw [HE.out,if_pos hX]
  obtain rfl:KR=fun _=> 0:=by rw [HK.out,if_pos hX]
  clear hX;go_wp2_with (first | (refine eB rfl (eD rfl (HP0.out _ _)) ?_) | (refine aG rfl 22 _ _ rfl .u8 (w.heap.size+4) 32 (fun _=> 0) (fun _=> 0) eT rfl rfl h8 ?_));exact bodyPost_ret (fT rfl _ _ .u8 (w.heap.size+4) 32 _ 5 rfl (h8.setRow 32 (fun _=> 0)) gH eT) rfl ⟨rfl,ay hbel (by omega) _⟩
 case neg=>
  obtain rfl:er=0:=by rw [HE.out,if_neg hX]
  obtain rfl:KR=KK:=by rw [HK.out,if_neg hX]
  clear hX HK HE;go_upto_region 4 with (fail)
  refine wS (n:=29) 7 (by decide) (by kernel_rfl) (by kernel_rfl) (by kernel_rfl) (by kernel_rfl) rfl
   (fun ii vv ww=> (match ii with | 0=> vv=.slice (some ⟨x10,0,none⟩) 32 32 | 1=> vv=.slice (some ⟨(w.heap.size+2),0,none⟩) 32 32 | 2=> vv=.slice (some ⟨(w.heap.size+3),0,none⟩) 32 32 | 4=> vv=.tuple #[.agg (arr .u8 32 (KR)),.int .i64 (0)] | 5=> vv=.agg (arr .u8 32 (KR)) | 6=> vv=.int .i64 (0) | _=> True)/\(ii=3->Mf ww vv 23 2 [.slice (some ⟨w.heap.size+2,0,none⟩) 32 32,.slice (some ⟨w.heap.size+3,0,none⟩) 32 32].toArray))
   (fun i v w w' h hE=> ⟨h.1,fun e=> Mf.below (h.2 e) hE⟩) ?_ ?_
  ·refine cO ?_;refine ⟨?_,?_,?_,?_,?_,?_,?_,(aJ),(aJ),trivial⟩
   ·intro _ a w2 hB hF hd;exact aH <| aP (fF rfl (hF.same 10 rfl) gH (by kernel_rfl)) ⟨rfl,aJ⟩
   ·intro _ a w2 hB hF hd;exact aH <| aP (fF rfl (hF.same 6 rfl) gH (by kernel_rfl)) ⟨rfl,aJ⟩
   ·intro _ a w2 hB hF hd;exact aH <| aP (fF rfl (hF.same 7 rfl) gH (by kernel_rfl)) ⟨rfl,aJ⟩
   ·intro _ a w2 hB hF hd;exact aH <| mg 55 23 2 _ [.slice (some ⟨(w.heap.size+2),0,none⟩) 32 32,.slice (some ⟨(w.heap.size+3),0,none⟩) 32 32] rfl Tryz.underlying55 (by kernel_rfl) (by kernel_rfl) rfl (by decide) (by decide) (by intro v hv;simp only [List.mem_cons,List.not_mem_nil,or_false] at hv;rcases hv with rfl | rfl<;> rfl) (by simp only [vg,List.map_cons,List.map_nil,show a.eval (Operand.tmp 23)=.slice (some ⟨(w.heap.size+2),0,none⟩) 32 32 from ((hd 1 _ rfl (aj rfl)).1),show a.eval (Operand.tmp 24)=.slice (some ⟨(w.heap.size+3),0,none⟩) 32 32 from ((hd 2 _ rfl (aj rfl)).1)];rfl) (by simp) ⟨trivial,fun _=> ((⟨_,rfl,heap_alloc_new _ _⟩))⟩
   ·intro _ a w2 hB hF hd;refine aH <| aC _ _ _ rfl Tryz.call120 _ (sH ((hd 0 _ rfl (aj rfl)).1) rfl rfl) (by simp) ((HDR.out w2 _ _ ((h10.kept hB).rd (by decide)) (((hd 3 _ rfl (aj rfl)).2 rfl).aiD ((h6.kept hB).rd (by decide)) ((h7.kept hB).rd (by decide)))).mono ?_);rintro e w3 ⟨rfl,hb⟩;exact ⟨_,rfl,⟨rfl,aJ⟩,hb⟩
   ·intro _ a w2 hB hF hd;exact aH <| aP (bg rfl ((hd 4 _ rfl (aj rfl)).1) rfl) ⟨rfl,aJ⟩
   ·intro _ a w2 hB hF hd;exact aH <| aP (bg rfl ((hd 4 _ rfl (aj rfl)).1) rfl) ⟨rfl,aJ⟩
  ·intro a w4 hB hF hS;obtain ⟨x25,hx25⟩:∃x,x=a.tmps.getD 25 undef:=⟨_,rfl⟩
   have ha:=aI rfl rfl hF [_,_,_,x25,_,_,_] rfl ⟨(hS 0 _ rfl (by decide)).1,(hS 1 _ rfl (by decide)).1,(hS 2 _ rfl (by decide)).1,hx25.symm,(hS 4 _ rfl (by decide)).1,(hS 5 _ rfl (by decide)).1,(hS 6 _ rfl (by decide)).1,trivial⟩;simp only [puts,List.take_succ_cons,List.take_zero,Act.put,dQ,dR,dS] at ha;subst ha;change tl _ _ _ (_::_:: []) _ _;clear hx25;clear hS hF;replace h8:=h8.kept hB;replace hbel:=hbel.trans (hB.mono hbel.size);refine tX rfl (aX 22 _ _ rfl .u8 (w.heap.size+4) 32 (fun _=> 0) KR eT rfl rfl h8 ?_);refine Mt rfl _ (.inr rfl) (JX ?_);have h8':=h8.setRow 32 KR;have hb':=ay hbel (show w.heap.size<=w.heap.size+4 by omega) (arr .u8 32 KR);clear h8 hbel hB;simp only [Act.put,Act.eval,dQ,dR,dS];go_wp2;exact bodyPost_ret (fT rfl _ _ .u8 (w.heap.size+4) 32 _ 5 rfl h8' gH eT) rfl ⟨rfl,hb'⟩
def zG:Nat->Int:=fun _=> 0
def lI (S P:Int) (n:Nat) (f:Nat->Int):Nat->Int:=lH 32 (dg 256 (mulN S 9)) (jL (qJ (mulN S P) (mulN S 9) P) zG 0 zG n f)
def WrR (S P:Int) (n:Nat) (f:Nat->Int) (w:World) (u:Value) (er:Int):Prop:=(mulN S P=0->u=.slice none 0 0/\er=21)/\(mulN S P≠0->er=0/\Rd .u8 w u (32+(n+16)) (lI S P n f))
theorem LP (S P:Int) (v:Value) (n:Nat) (f:Nat->Int) (w:World) (hv:Rd .u8 w v n f) (hn:n<=300):
  Calls Tryz.prog 65 #[.agg (arr .u8 32 (dg 256 S)),.agg (arr .u8 32 (dg 256 P)),v] w fun e w'=> ∃u er,e=.returned (.tuple #[u,.int .i64 er])/\WrR S P n f w' u er/\Below w.heap.size w w':=by
 have HPU:=ak (fun w=> oQ S w);have Qw:=ak (fun w=> CV S P (mulN S 9) P w)
 have ZQ:Hid (∀w u,Rd .u8 w u n f->Calls Tryz.prog 70 #[.agg (arr .u8 32 (qJ (mulN S P) (mulN S 9) P)),.agg (arr .u8 12 (fun _=> 0)),.slice none 0 0,u] w fun e w'=> ∃v,e=.returned (.tuple #[v,.int .i64 0])/\Go.aZ.Own .u8 5 w.heap.size w' v (n+16) (jL (qJ (mulN S P) (mulN S 9) P) zG 0 zG n f)/\Below w.heap.size w w'):=fun w u h=>
  Qo _ zG (Vy _ _ _) (fun i _=> by unfold zG;decide) _ u 0 n zG f w (Rd.nil _ _ _) h (fun i hi=> absurd hi (by omega)) (by decide) (by omega)
 have HB0:=ak (fun (a:Act) w=> CW (a:=a) w);have HWF:Hid (lI S P n f=lH 32 (dg 256 (mulN S 9)) (jL (qJ (mulN S P) (mulN S 9) P) zG 0 zG n f)):=rfl;have HT0:=ak hv;have Mi:=ak hn;have Qt:Hid (∀w u er,((mulN S P=0->u=.slice none 0 0/\er=21)/\(mulN S P≠0->er=0/\Rd .u8 w u (32+(n+16)) (lI S P n f)))->WrR S P n f w u er):=fun w u er h=> h;obtain ⟨ta,tc,ev,_⟩:=id hv;subst ev;by_cases hX:mulN S P=0
 case pos=>
  have hk1:sG (mulN S P) (mulN S 9) P=fun _=> 0:=by unfold sG;rw [if_pos hX]
  have hk2:ow (mulN S P)=21:=by unfold ow;rw [if_pos hX]
  rw [hk1,hk2] at Qw;have HR:=ak (fun w=> Qt.out w (.slice none 0 0) 21 ⟨fun _=> ⟨rfl,rfl⟩,fun h=> absurd hX h⟩);obtain ⟨FI,ZB⟩:∃x,x=mulN S 9:=⟨_,rfl⟩
  rw [<-ZB] at HPU Qw;clear hX hk1 hk2 ZQ ZB hv hn HWF Qt
  go_enter Tryz.func65,Tryz.ntmps65
  go_upto_region 1 with (fail);refine aD (fun w1=> aF .u8 w1 w.heap.size 32 (dg 256 S)/\aF .u8 w1 (w.heap.size+1) 32 (dg 256 P)/\Below w.heap.size w w1) ⟨.alloc (bM rfl rfl) _,bM (by first | omega | (simp<;> omega)) rfl,((bN _ _).alloc (bA _) _).alloc (by first | omega | (simp<;> omega)) _⟩ ?_;rintro w1 ⟨h3,h4,hbel⟩;go_wp2_with (refine aQ rfl 22 _ rfl .u8 w.heap.size 32 (dg 256 S) 5 gH eT rfl h3 ?_);refine (HPU.out _).mono ?_;rintro e w2 ⟨rfl,hb⟩;replace h3:=h3.kept hb;replace h4:=h4.kept hb;replace hbel:=hbel.trans (hb.mono hbel.size);have hl4:=h4.lt;clear hb;go_upto_region 2 with (refine aG rfl 22 _ _ rfl .u8 w2.heap.size 32 (fun _=> 0) (dg 256 FI) eT rfl rfl (bM rfl (by rfl)) ?_);refine aD (fun w3=> aF .u8 w3 w2.heap.size 32 (dg 256 FI)/\Below w2.heap.size w2 w3) ⟨(bM rfl (by rfl):aF .u8 _ _ 32 (fun _=> 0)).setRow _ _,ay ((bN _ _).alloc (bA _) _) (bA _) _⟩ ?_;rintro w3 ⟨h8,hb⟩;replace h3:=h3.kept hb;replace h4:=h4.kept hb;replace hbel:=hbel.trans (hb.mono hbel.size);obtain ⟨x8,e8⟩:∃x,x=w2.heap.size:=⟨_,rfl⟩
  rw [<-e8] at h8 hl4 ⊢;clear e8 hb
  try simp only [Act.put,dQ,dR,dS]
  go_wp2_with (first
   | (refine aQ rfl 22 _ rfl .u8 w.heap.size 32 (dg 256 S) 5 gH eT rfl h3 ?_)
   | (refine aQ rfl 22 _ rfl .u8 (w.heap.size+1) 32 (dg 256 P) 5 gH eT rfl h4 ?_)
   | (refine aQ rfl 22 _ rfl .u8 x8 32 (dg 256 FI) 5 gH eT rfl h8 ?_))
  refine (Qw.out _).mono ?_;rintro e w4 ⟨rfl,hb⟩;replace hbel:=hbel.trans (hb.mono hbel.size);clear hb h3 h4 h8;go_upto_region 3 with (refine aG rfl 22 _ _ rfl .u8 w4.heap.size 32 (fun _=> 0) (fun _=> 0) eT rfl rfl (bM rfl (by rfl)) ?_);refine aD (fun w5=> Below w.heap.size w w5) (ay (hbel.alloc hbel.size _) hbel.size _) ?_;clear hbel;rintro w5 hbel
  try simp only [Act.put,dQ,dR,dS]
  go_wp2;go_ret2;exact ⟨_,_,rfl,HR.out _,hbel⟩
 case neg=>
  have hk1:sG (mulN S P) (mulN S 9) P=qJ (mulN S P) (mulN S 9) P:=by unfold sG;rw [if_neg hX]
  have hk2:ow (mulN S P)=0:=by unfold ow;rw [if_neg hX]
  rw [hk1,hk2] at Qw;have HR:=ak (fun w u h=> Qt.out w u 0 ⟨fun h=> absurd h hX,fun _=> ⟨rfl,h⟩⟩);obtain ⟨K,hK⟩:∃x,x=qJ (mulN S P) (mulN S 9) P:=⟨_,rfl⟩
  rw [<-hK] at Qw ZQ HWF;obtain ⟨FI,ZB⟩:∃x,x=mulN S 9:=⟨_,rfl⟩
  rw [<-ZB] at HPU Qw HWF;obtain ⟨SF,hSF⟩:∃x,x=jL K zG 0 zG n f:=⟨_,rfl⟩
  rw [<-hSF] at ZQ HWF;obtain ⟨WF,hWF⟩:∃x,x=lI S P n f:=⟨_,rfl⟩
  rw [<-hWF] at HR HWF;clear hX hk1 hk2 ZB hK hSF hWF hv Qt;have h28:¬ (1048528:Int)<(n:Int):=by omega
  clear hn
  go_enter Tryz.func65,Tryz.ntmps65
  go_upto_region 1 with (fail);refine aD (fun w1=> aF .u8 w1 w.heap.size 32 (dg 256 S)/\aF .u8 w1 (w.heap.size+1) 32 (dg 256 P)/\Below w.heap.size w w1) ⟨.alloc (bM rfl rfl) _,bM (by first | omega | (simp<;> omega)) rfl,((bN _ _).alloc (bA _) _).alloc (by first | omega | (simp<;> omega)) _⟩ ?_;rintro w1 ⟨h3,h4,hbel⟩;go_wp2_with (refine aQ rfl 22 _ rfl .u8 w.heap.size 32 (dg 256 S) 5 gH eT rfl h3 ?_);refine (HPU.out _).mono ?_;rintro e w2 ⟨rfl,hb⟩;replace h3:=h3.kept hb;replace h4:=h4.kept hb;replace hbel:=hbel.trans (hb.mono hbel.size);have hl4:=h4.lt;clear hb;go_upto_region 2 with (refine aG rfl 22 _ _ rfl .u8 w2.heap.size 32 (fun _=> 0) (dg 256 FI) eT rfl rfl (bM rfl (by rfl)) ?_);refine aD (fun w3=> aF .u8 w3 w2.heap.size 32 (dg 256 FI)/\Below w2.heap.size w2 w3) ⟨(bM rfl (by rfl):aF .u8 _ _ 32 (fun _=> 0)).setRow _ _,ay ((bN _ _).alloc (bA _) _) (bA _) _⟩ ?_;rintro w3 ⟨h8,hb⟩;replace h3:=h3.kept hb;replace h4:=h4.kept hb;replace hbel:=hbel.trans (hb.mono hbel.size);obtain ⟨x8,e8⟩:∃x,x=w2.heap.size:=⟨_,rfl⟩
  rw [<-e8] at h8 hl4 ⊢;clear e8 hb
  try simp only [Act.put,dQ,dR,dS]
  go_wp2_with (first
   | (refine aQ rfl 22 _ rfl .u8 w.heap.size 32 (dg 256 S) 5 gH eT rfl h3 ?_)
   | (refine aQ rfl 22 _ rfl .u8 (w.heap.size+1) 32 (dg 256 P) 5 gH eT rfl h4 ?_)
   | (refine aQ rfl 22 _ rfl .u8 x8 32 (dg 256 FI) 5 gH eT rfl h8 ?_))
  refine (Qw.out _).mono ?_;rintro e w4 ⟨rfl,hb⟩;replace h8:=h8.kept hb;replace hbel:=hbel.trans (hb.mono hbel.size);have Zw:=h8.lt;clear hb h3 h4;go_upto_region 3 with (refine aG rfl 22 _ _ rfl .u8 w4.heap.size 32 (fun _=> 0) K eT rfl rfl (bM rfl (by rfl)) ?_);refine aD (fun w5=> aF .u8 w5 w4.heap.size 32 K/\Below w4.heap.size w4 w5) ⟨(bM rfl (by rfl):aF .u8 _ _ 32 (fun _=> 0)).setRow _ _,ay ((bN _ _).alloc (bA _) _) (bA _) _⟩ ?_;rintro w5 ⟨h9,hb⟩;replace h8:=h8.kept hb;replace hbel:=hbel.trans (hb.mono hbel.size);obtain ⟨x9,e9⟩:∃x,x=w4.heap.size:=⟨_,rfl⟩
  rw [<-e9] at h9 Zw ⊢;clear e9 hb
  try simp only [Act.put,dQ,dR,dS]
  go_wp2_with (first
   | (refine aQ rfl 22 _ rfl .u8 x9 32 K 5 gH eT rfl h9 ?_)
   | (refine eB rfl (eD rfl (HB0.out _ _)) ?_))
  refine (ZQ.out _ _ (HT0.out.below hbel)).mono ?_;rintro e w6 ⟨u,rfl,hu,hb⟩;have HU:=ak hu.rd;replace h8:=h8.kept hb;replace hbel:=hbel.trans (hb.mono hbel.size);have hlo:∀i,i<32->WF i=dg 256 FI i:=fun i hi=> by rw [HWF.out];unfold lH;rw [if_pos hi]
  have hhi:∀i,i<n+16->WF (32+i)=SF i:=fun i _=> by rw [HWF.out];unfold lH;rw [if_neg (by omega),show 32+i - 32=i by omega]
  have HC8:Hid (∀i,i<32->w6.cell? ⟨x8,0+i,none⟩=some (.int .u8 (WF i))):=fun i hi=> by rw [hlo i hi,pz];exact h8.cell i hi
  have HHI:=ak hhi;have hnn:=Mi.out;clear hb hu h9 Zw hlo hhi;go_wp2_with (at_builtin;refine Jq rfl _ _ 23 rfl 5 .u8 1 jI vB x8 0 32 WF HC8.out rfl u (n+16) SF HU.out rfl (by omega) HHI.out (by omega) (by omega) ?_;intro v' w7 hr Ua);have HRR:=ak (HR.out _ _ hr);have Nl:=hbel.trans (Ua.mono hbel.size);clear hr Ua h8 hbel;go_wp2;go_ret2;exact ⟨_,_,rfl,HRR.out,Nl⟩
def tT (f2:Nat->Int):Int:=sm 256 f2 32
def pK (T:Int) (f2:Nat->Int):Int:=mulN T (tT f2)
def JQ (T:Int) (f2:Nat->Int):Nat->Int:=qJ (pK T f2) (tT f2) (mulN T 9)
def rT (T:Int) (n:Nat) (f2:Nat->Int):Bool:=ql (JQ T f2) zG 0 zG n (fun i=> f2 (32+i))
def JR (T:Int) (f2:Nat->Int):Nat->Int:=jX (JQ T f2) zG 1 (fun i=> f2 (32+i))
def UnR (T:Int) (n:Nat) (f2:Nat->Int) (w:World) (u:Value) (er:Int):Prop:=(pK T f2=0->u=.slice none 0 0/\er=21)/\(pK T f2≠0->(rT T n f2=false->u=.slice none 0 0/\er=20)/\(rT T n f2=true->er=0/\Rd .u8 w u n (JR T f2)))
theorem Ag (T:Int) (v:Value) (n:Nat) (f:Nat->Int) (w:World) (hv:Rd .u8 w v n f) (hn:n<48):
  Calls Tryz.prog 75 #[.agg (arr .u8 32 (dg 256 T)),v] w fun e w'=> e=.returned (.tuple #[.slice none 0 0,.int .i64 10])/\Below w.heap.size w w':=by
 obtain ⟨ta,tc,ev,_⟩:=id hv;subst ev;have h48:(n:Int)<48:=by omega
 clear hv hn
 go_enter Tryz.func75,Tryz.ntmps75
 go_wp2;go_ret2;exact ⟨rfl,(bN _ _).alloc (bA _) _⟩
theorem ES (T:Int) (v:Value) (n N:Nat) (hN:N=n+48) (f:Nat->Int) (w:World) (hv:Rd .u8 w v N f) (hn:n<=400) (hf:∀i,i<N->0<=f i/\f i<256):
  Calls Tryz.prog 75 #[.agg (arr .u8 32 (dg 256 T)),v] w fun e w'=> ∃u er,e=.returned (.tuple #[u,.int .i64 er])/\UnR T n f w' u er/\Below w.heap.size w w':=by
 have HPU:=ak (fun w=> oQ T w);have Qw:Hid (∀w,Calls Tryz.prog 118 #[.agg (arr .u8 32 (dg 256 T)),.agg (arr .u8 32 (dg 256 (tT f))),.agg (arr .u8 32 (dg 256 (tT f))),.agg (arr .u8 32 (dg 256 (mulN T 9)))] w fun e w'=> e=.returned (.tuple #[.agg (arr .u8 32 (sG (pK T f) (tT f) (mulN T 9))),.int .i64 (ow (pK T f))])/\Below w.heap.size w w'):=fun w=> CV T (tT f) (tT f) (mulN T 9) w
 have HOP:Hid (∀w u,Rd .u8 w u (n+16) (fun i=> f (32+i))->Calls Tryz.prog 78 #[.agg (arr .u8 32 (JQ T f)),.agg (arr .u8 12 (fun _=> 0)),.slice none 0 0,u] w fun e w'=> ∃v,e=.returned v/\ZP (rT T n f) w' v n (JR T f)/\Below w.heap.size w w'):=fun w u h=>
  Qp _ zG (Vy _ _ _) (fun i _=> by unfold zG;decide) _ u 0 n zG _ w (Rd.nil _ _ _) h (fun i hi=> absurd hi (by omega)) (fun i hi=> hf (32+i) (by omega)) (by decide) (by omega)
 have HB0:=ak (fun (a:Act) w=> CW (a:=a) w);have HFQ:Hid (arr .u8 32 f=arr .u8 32 (dg 256 (tT f))):=gJ fun i hi=> (xB (by decide) (fun i hi=> hf i (by omega)) i hi).symm;have Qt:Hid (∀w u er,((pK T f=0->u=.slice none 0 0/\er=21)/\(pK T f≠0->(rT T n f=false->u=.slice none 0 0/\er=20)/\(rT T n f=true->er=0/\Rd .u8 w u n (JR T f))))->UnR T n f w u er):=fun w u er h=> h;have HV0:=ak hv;obtain ⟨ta,tc,ev,hc1,hc2,_,_⟩:=id hv;subst ev;have G1:=ak (Rd.head (P:=Tryz.prog) jI vB ta N tc 32 (by omega) hc1);obtain ⟨a2,g1,g2,g3⟩:=Rd.cut (P:=Tryz.prog) jI vB ta N tc 32 N (by omega) (bA _) hc1;have G2:=ak g2;have HRS:Hid (∀w,Rd .u8 w (.slice ta N tc) N f->Rd .u8 w (.slice a2 (N - 32) (tc - 32)) (n+16) (fun i=> f (32+i))):=fun w h=> by have h2:=(g3 w f h).2;rwa [show N - 32=n+16 by omega] at h2 ⊢
 obtain ⟨b1,o1,q1,l1,c1⟩:=(G1.out.2 _ _ hv).acC (by decide);subst q1;have yH:=ak c1;have h48:¬ (N:Int)<48:=by omega
 have hbig:¬ (1048576:Int)<(N:Int):=by omega
 have ZW:Hid (sG (pK T f) (tT f) (mulN T 9)=if pK T f=0 then (fun _=> 0) else JQ T f):=rfl;have Qx:Hid (ow (pK T f)=if pK T f=0 then 21 else 0):=rfl;obtain ⟨KR,hKR⟩:∃x,x=sG (pK T f) (tT f) (mulN T 9):=⟨_,rfl⟩
 obtain ⟨er,her⟩:∃x,x=ow (pK T f):=⟨_,rfl⟩
 rw [<-hKR] at Qw ZW;rw [<-her] at Qw Qx;obtain ⟨ok,hok⟩:∃x,x=rT T n f:=⟨_,rfl⟩
 rw [<-hok] at HOP Qt;obtain ⟨H,hH⟩:∃x,x=JR T f:=⟨_,rfl⟩
 rw [<-hH] at HOP Qt;obtain ⟨K,hK⟩:∃x,x=JQ T f:=⟨_,rfl⟩
 rw [<-hK] at HOP ZW;obtain ⟨X,hX⟩:∃x,x=pK T f:=⟨_,rfl⟩
 rw [<-hX] at ZW Qx Qt;obtain ⟨FI,ZB⟩:∃x,x=tT f:=⟨_,rfl⟩
 rw [<-ZB] at Qw HFQ;obtain ⟨PT,hPT⟩:∃x,x=mulN T 9:=⟨_,rfl⟩
 rw [<-hPT] at HPU Qw;clear hN hKR her hok hH hK hX ZB hPT g1 g2 g3 c1 hv hf hc1 hc2 hn
 go_enter Tryz.func75,Tryz.ntmps75
 go_upto_region 1 with (fail);refine aD (fun w1=> aF .u8 w1 w.heap.size 32 (dg 256 T)/\Below w.heap.size w w1) ⟨bM rfl rfl,(bN _ _).alloc (bA _) _⟩ ?_;rintro w1 ⟨h2,hbel⟩;have l1':b1<w1.heap.size:=pJ l1 hbel.size;have ahm:Hid (∀i,i<32->w1.cell? ⟨b1,o1+i,none⟩=some (.int .u8 (f i))):=fun i hi=> (hbel.cell (p:=⟨b1,o1+i,none⟩) l1).trans (yH.out i hi);clear yH l1;go_upto_region 5 with (fail)
 refine bB (n:=40) (by kernel_rfl) (by kernel_rfl) (by kernel_rfl) rfl
  (jh [(5,4)]) (fJ [(5,4)]) (fun _=> arr .u8 32 (fun _=> 0)) (fun _=> (arr .u8 32 (dg 256 FI))) (fun _=> 22) (fun _=> 6)
  (fun ii vv _=> (match ii with | 0=> vv=.slice (some ⟨b1,o1,none⟩) N tc | 1=> vv=.slice (some ⟨b1,o1,none⟩) 32 tc | 2=> vv=.pointer (some ⟨b1,o1,none⟩) | 3=> vv=.agg (arr .u8 32 (dg 256 FI)) | _=> True)) (fun _ _=> True) (fun _ _ _=> trivial) (fun _ _ _ _ _ _ _=> trivial) (fun _ _ _ _ h _=> h)
  (gF rfl) (eG rfl) ?_ ?_ ?_ ?_
 ·refine cO ?_;refine ⟨?_,?_,?_,?_,(fun h=> by cases h),(fun _ h=> by cases h),trivial⟩
  ·intro _ _ a w2 hB hF hd;exact aH <| dJ rfl (hF.same 1 rfl)
  ·intro _ _ a w2 hB hF hd;exact aH <| aP (dH rfl (hd 0 _ rfl rfl rfl (aj rfl)) (by simp only [Option.map_some,Option.map_none];exact G1.out.1 _)) rfl
  ·intro _ _ a w2 hB hF hd;exact aH <| aP (jN rfl (hd 1 _ rfl rfl rfl (aj rfl)) gH (by decide)) rfl
  ·intro _ _ a w2 hB hF hd;exact aH <| aP (jv rfl (hd 2 _ rfl rfl rfl (aj rfl)) gH eT (fun i hi=> (hB.cell (p:=⟨b1,o1+i,none⟩) l1').trans (ahm.out i hi))) (congrArg Value.agg HFQ.out)
 ·refine cO ?_;refine ⟨(fun h=> by cases h),(fun h=> by cases h),(fun h=> by cases h),(fun h=> by cases h),?_,(fun h=> by cases h),trivial⟩
  ·exact fun _=> ⟨rfl,rfl,fun a w2 K h=> aU rfl rfl Tryz.zeroValue22 (by simp) h⟩
 ·refine cO ?_;refine ⟨(fun _ h=> by cases h),(fun _ h=> by cases h),(fun _ h=> by cases h),(fun _ h=> by cases h),(fun _ h=> by cases h),?_,trivial⟩
  ·intro p hp;obtain rfl:4=p:=fO hp;exact ⟨rfl,rfl,⟨_,rfl⟩,aj rfl,fun a w2 b K hB hF hd hx hb h=> bD rfl rfl eT hx (hd 3 _ rfl rfl rfl (aj rfl)) hb h⟩
 ·intro a w2 blk hB hF hS hv hfin dD;obtain ⟨v4,QU,WG⟩:=hv 4 _ rfl rfl;have ha:=aI rfl rfl hF [_,_,_,_,_,undef] rfl ⟨hS 0 _ rfl rfl rfl,hS 1 _ rfl rfl rfl,hS 2 _ rfl rfl rfl,hS 3 _ rfl rfl rfl,v4,trivial,trivial⟩;have f4:=hfin 5 _ 4 rfl rfl;simp only [puts,Act.put,dQ,dR,dS] at ha;subst ha;have V4:aF .u8 w2 (blk 4) 32 (dg 256 FI):=⟨_,f4⟩
  clear hS hv hfin dD hF v4 f4;replace h2:=h2.kept hB;replace hbel:=hbel.trans (hB.mono hbel.size);obtain ⟨x6,e6⟩:∃x,x=blk 4:=⟨_,rfl⟩
  rw [<-e6] at V4 ⊢;have h6:=V4;clear e6 hB V4 QU WG l1' ahm;go_upto_region 6 with (fail)
  refine bB (n:=40) (by kernel_rfl) (by kernel_rfl) (by kernel_rfl) rfl
   (jh [(10,9)]) (fJ [(10,9)]) (fun _=> arr .u8 32 (fun _=> 0)) (fun _=> (arr .u8 32 (KR))) (fun _=> 22) (fun _=> 7)
   (fun ii vv _=> (match ii with | 0 | 3=> vv=.agg (arr .u8 32 (dg 256 T)) | 1 | 2=> vv=.agg (arr .u8 32 (dg 256 FI)) | 4=> vv=.agg (arr .u8 32 (dg 256 PT)) | 5 | 6=> vv=.tuple #[.agg (arr .u8 32 (KR)),.int .i64 (er)] | 7=> vv=.agg (arr .u8 32 (KR)) | 8 | 11=> vv=.int .i64 (er) | _=> True)) (fun _ _=> True) (fun _ _ _=> trivial) (fun _ _ _ _ _ _ _=> trivial) (fun _ _ _ _ h _=> h)
   (gF rfl) (eG rfl) ?_ ?_ ?_ ?_
  ·refine cO ?_;refine ⟨?_,?_,?_,?_,?_,?_,?_,?_,?_,(fun h=> by cases h),(fun _ h=> by cases h),?_,trivial⟩
   ·intro _ _ a w2 hB hF hd;exact aH <| aP (aB rfl gH rfl eT (hF.same 2 rfl) (h2.below hB h2.lt)) rfl
   ·intro _ _ a w2 hB hF hd;exact aH <| aP (aB rfl gH rfl eT (hF.same 6 rfl) (h6.below hB h6.lt)) rfl
   ·intro _ _ a w2 hB hF hd;exact aH <| aP (aB rfl gH rfl eT (hF.same 6 rfl) (h6.below hB h6.lt)) rfl
   ·intro _ _ a w2 hB hF hd;exact aH <| aP (aB rfl gH rfl eT (hF.same 2 rfl) (h2.below hB h2.lt)) rfl
   ·intro _ _ a w2 hB hF hd;refine aH <| aC _ _ _ rfl Tryz.call90 _ (args1 (hd 3 _ rfl rfl rfl (aj rfl))) (by simp) ((HPU.out w2).mono ?_);rintro e w3 ⟨rfl,hb⟩;exact ⟨_,rfl,rfl,hb⟩
   ·intro _ _ a w2 hB hF hd;refine aH <| aC _ _ _ rfl Tryz.call118 _ (qL (hd 0 _ rfl rfl rfl (aj rfl)) (hd 1 _ rfl rfl rfl (aj rfl)) (hd 2 _ rfl rfl rfl (aj rfl)) (hd 4 _ rfl rfl rfl (aj rfl))) (by simp) ((Qw.out w2).mono ?_);rintro e w3 ⟨rfl,hb⟩;exact ⟨_,rfl,rfl,hb⟩
   ·intro _ _ a w2 hB hF hd;exact aH <| dJ rfl (hd 5 _ rfl rfl rfl (aj rfl))
   ·intro _ _ a w2 hB hF hd;exact aH <| aP (bg rfl (hd 6 _ rfl rfl rfl (aj rfl)) rfl) rfl
   ·intro _ _ a w2 hB hF hd;exact aH <| aP (bg rfl (hd 6 _ rfl rfl rfl (aj rfl)) rfl) rfl
   ·intro _ _ a w2 hB hF hd;exact aH <| mH rfl (hd 8 _ rfl rfl rfl (aj rfl))
  ·refine cO ?_;refine ⟨(fun h=> by cases h),(fun h=> by cases h),(fun h=> by cases h),(fun h=> by cases h),(fun h=> by cases h),(fun h=> by cases h),(fun h=> by cases h),(fun h=> by cases h),(fun h=> by cases h),?_,(fun h=> by cases h),(fun h=> by cases h),trivial⟩
   ·exact fun _=> ⟨rfl,rfl,fun a w2 K h=> aU rfl rfl Tryz.zeroValue22 (by simp) h⟩
  ·refine cO ?_;refine ⟨(fun _ h=> by cases h),(fun _ h=> by cases h),(fun _ h=> by cases h),(fun _ h=> by cases h),(fun _ h=> by cases h),(fun _ h=> by cases h),(fun _ h=> by cases h),(fun _ h=> by cases h),(fun _ h=> by cases h),(fun _ h=> by cases h),?_,(fun _ h=> by cases h),trivial⟩
   ·intro p hp;obtain rfl:9=p:=fO hp;exact ⟨rfl,rfl,⟨_,rfl⟩,aj rfl,fun a w2 b K hB hF hd hx hb h=> bD rfl rfl eT hx (hd 7 _ rfl rfl rfl (aj rfl)) hb h⟩
  ·intro a w3 blk hB hF hS hv hfin dD;obtain ⟨v9,v9l,v9u⟩:=hv 9 _ rfl rfl;have ha:=aI rfl rfl hF [_,_,_,_,_,_,_,_,_,_,undef,_] rfl ⟨hS 0 _ rfl rfl rfl,hS 1 _ rfl rfl rfl,hS 2 _ rfl rfl rfl,hS 3 _ rfl rfl rfl,hS 4 _ rfl rfl rfl,hS 5 _ rfl rfl rfl,hS 6 _ rfl rfl rfl,hS 7 _ rfl rfl rfl,hS 8 _ rfl rfl rfl,v9,trivial,hS 11 _ rfl rfl rfl,trivial⟩;have f9:=hfin 10 _ 9 rfl rfl;simp only [puts,Act.put,dQ,dR,dS] at ha;subst ha;have V9:aF .u8 w3 (blk 9) 32 (KR):=⟨_,f9⟩
   clear hS hv hfin dD hF v9 f9;replace hbel:=hbel.trans (hB.mono hbel.size);obtain ⟨x7,e7⟩:∃x,x=blk 9:=⟨_,rfl⟩
   rw [<-e7] at V9 ⊢;have h7:=V9;clear e7 hB V9 v9l v9u h2 h6;by_cases hX:X=0
   case pos=>
    obtain rfl:er=21:=by rw [Qx.out,if_pos hX]
    have HR:=ak (Qt.out w3 (.slice none 0 0) 21 ⟨fun _=> ⟨rfl,rfl⟩,fun h=> absurd hX h⟩);clear hX ZW Qx Qt;go_wp2;go_ret2;exact ⟨_,_,rfl,HR.out,hbel⟩
   case neg=>
    obtain rfl:er=0:=by rw [Qx.out,if_neg hX]
    obtain rfl:KR=K:=by rw [ZW.out,if_neg hX]
    have HR1:Hid (ok=false->∀w,UnR T n f w (.slice none 0 0) 20):=fun ho w=> Qt.out w _ _ ⟨fun h=> absurd h hX,fun _=> ⟨fun _=> ⟨rfl,rfl⟩,fun h=> (by rw [ho] at h;cases h)⟩⟩;have HR2:Hid (ok=true->∀w u,Rd .u8 w u n H->UnR T n f w u 0):=fun ho w u hu=> Qt.out w _ _ ⟨fun h=> absurd h hX,fun _=> ⟨fun h=> (by rw [ho] at h;cases h),fun _=> ⟨rfl,hu⟩⟩⟩;clear hX ZW Qx Qt;go_upto_region 9 with (fail);cases ok
    case false=>
     have JA:Hid (∀w u,Rd .u8 w u (n+16) (fun i=> f (32+i))->Calls Tryz.prog 78 #[.agg (arr .u8 32 KR),.agg (arr .u8 12 (fun _=> 0)),.slice none 0 0,u] w fun e w'=> e=.returned (.tuple #[.slice none 0 0,.int .i64 20])/\Below w.heap.size w w'):=fun w u h=> by
      refine (HOP.out w u h).mono ?_;rintro e w' ⟨v,rfl,ho,hb⟩;rw [ho.2 rfl];exact ⟨rfl,hb⟩
     refine aT (n:=40) (by kernel_rfl) (by kernel_rfl) (by kernel_rfl) rfl
      (fun ii vv _=> (match ii with | 0=> vv=.agg (arr .u8 32 (KR)) | 1=> vv=.agg (arr .u8 12 (fun _=> 0)) | 2=> vv=.slice (some ⟨b1,o1,none⟩) N tc | 3=> vv=.slice a2 (N - 32) (tc - 32) | 4=> vv=.tuple #[.slice none 0 0,.int .i64 (20)] | 5 | 7=> vv=.slice none 0 0 | 6 | 8=> vv=.int .i64 (20) | _=> True))
      (fun w w'=> Below w.heap.size w w') (fun _ _ h=> h) (fun _ _ _ _ h _=> h) ?_ ?_
     ·refine cO ?_;refine ⟨?_,?_,?_,?_,?_,?_,?_,?_,?_,trivial⟩
      ·intro a w2 hB hF hd;exact aH <| aP (aB rfl gH rfl eT (hF.same 7 rfl) (h7.below hB h7.lt)) rfl
      ·intro a w2 hB hF hd;exact aH <| aP (eD rfl (HB0.out _ _)) rfl
      ·intro a w2 hB hF hd;exact aH <| dJ rfl (hF.same 1 rfl)
      ·intro a w2 hB hF hd;exact aH <| aP (dH rfl (hd 2 _ rfl (aj rfl)) (by simp only [Option.map_some,Option.map_none];exact G2.out _)) rfl
      ·intro a w2 hB hF hd;refine aH <| aC _ _ _ rfl Tryz.call78 _ (qL (hd 0 _ rfl (aj rfl)) (hd 1 _ rfl (aj rfl)) rfl (hd 3 _ rfl (aj rfl))) (by simp) ((JA.out w2 _ (HRS.out _ ((HV0.out.below hbel).below hB))).mono ?_);rintro e w3 ⟨rfl,hb⟩;exact ⟨_,rfl,rfl,hb⟩
      ·intro a w2 hB hF hd;exact aH <| aP (bg rfl (hd 4 _ rfl (aj rfl)) rfl) rfl
      ·intro a w2 hB hF hd;exact aH <| aP (bg rfl (hd 4 _ rfl (aj rfl)) rfl) rfl
      ·intro a w2 hB hF hd;exact aH <| mH rfl (hd 5 _ rfl (aj rfl))
      ·intro a w2 hB hF hd;exact aH <| mH rfl (hd 6 _ rfl (aj rfl))
     ·intro a w4 hB hF hS;have ha:=aI rfl rfl hF [_,_,_,_,_,_,_,_,_] rfl ⟨hS 0 _ rfl,hS 1 _ rfl,hS 2 _ rfl,hS 3 _ rfl,hS 4 _ rfl,hS 5 _ rfl,hS 6 _ rfl,hS 7 _ rfl,hS 8 _ rfl,trivial⟩;simp only [puts,Act.put,dQ,dR,dS] at ha;subst ha;clear hS hF;have hb4:=hbel.trans (hB.mono hbel.size);go_wp2;go_ret2;exact ⟨_,_,rfl,HR1.out (by trivial) _,hb4⟩
    case true=>
     have JA:Hid (∀w u,Rd .u8 w u (n+16) (fun i=> f (32+i))->Calls Tryz.prog 78 #[.agg (arr .u8 32 KR),.agg (arr .u8 12 (fun _=> 0)),.slice none 0 0,u] w fun e w'=> ∃v,e=.returned v/\xZ w' v n H/\Below w.heap.size w w'):=fun w u h=> by
      refine (HOP.out w u h).mono ?_;rintro e w' ⟨v,rfl,ho,hb⟩;exact ⟨v,rfl,ho.1 rfl,hb⟩
     refine aT (n:=40) (by kernel_rfl) (by kernel_rfl) (by kernel_rfl) rfl
      (fun ii vv ww=> (match ii with | 0=> vv=.agg (arr .u8 32 (KR)) | 1=> vv=.agg (arr .u8 12 (fun _=> 0)) | 2=> vv=.slice (some ⟨b1,o1,none⟩) N tc | 3=> vv=.slice a2 (N - 32) (tc - 32) | 6 | 8=> vv=.int .i64 (0) | _=> True)/\(ii=4->xZ ww vv n (H))/\(ii=5->Rd .u8 ww vv n (H))/\(ii=7->Rd .u8 ww vv n (H)))
      (fun w w'=> Below w.heap.size w w') (fun _ _ h=> h) (fun i v w w' h hE=> ⟨h.1,fun e=> xZ.below (h.2.1 e) hE,fun e=> Rd.below (h.2.2.1 e) hE,fun e=> Rd.below (h.2.2.2 e) hE⟩) ?_ ?_
     ·refine cO ?_;refine ⟨?_,?_,?_,?_,?_,?_,?_,?_,?_,trivial⟩
      ·intro a w2 hB hF hd;exact aH <| aP (aB rfl gH rfl eT (hF.same 7 rfl) (h7.below hB h7.lt)) ⟨rfl,aJ,aJ,aJ⟩
      ·intro a w2 hB hF hd;exact aH <| aP (eD rfl (HB0.out _ _)) ⟨rfl,aJ,aJ,aJ⟩
      ·intro a w2 hB hF hd;exact aH <| dJ rfl ⟨(hF.same 1 rfl),aJ,aJ,aJ⟩
      ·intro a w2 hB hF hd;exact aH <| aP (dH rfl ((hd 2 _ rfl (aj rfl)).1) (by simp only [Option.map_some,Option.map_none];exact G2.out _)) ⟨rfl,aJ,aJ,aJ⟩
      ·intro a w2 hB hF hd;refine aH <| aC _ _ _ rfl Tryz.call78 _ (qL ((hd 0 _ rfl (aj rfl)).1) ((hd 1 _ rfl (aj rfl)).1) rfl ((hd 3 _ rfl (aj rfl)).1)) (by simp) ((JA.out w2 _ (HRS.out _ ((HV0.out.below hbel).below hB))).mono ?_);rintro e w3 ⟨u,rfl,hr,hb⟩;exact ⟨u,rfl,⟨trivial,fun _=> hr,aJ,aJ⟩,hb⟩
      ·intro a w2 hB hF hd;rw [if_pos (bJ rfl)];obtain ⟨u_,wh,Cv⟩:=((hd 4 _ rfl (aj rfl)).2.1 rfl)
       exact aP (bg rfl wh rfl) ⟨trivial,aJ,fun _=> (Cv),aJ⟩
      ·intro a w2 hB hF hd;rw [if_pos (bJ rfl)];obtain ⟨u_,wh,Cv⟩:=((hd 4 _ rfl (aj rfl)).2.1 rfl)
       exact aP (bg rfl wh rfl) ⟨rfl,aJ,aJ,aJ⟩
      ·intro a w2 hB hF hd;exact aH <| mH rfl ⟨trivial,aJ,aJ,fun _=> ((hd 5 _ rfl (aj rfl)).2.2.1 rfl)⟩
      ·intro a w2 hB hF hd;exact aH <| mH rfl ⟨((hd 6 _ rfl (aj rfl)).1),aJ,aJ,aJ⟩
     ·intro a w4 hB hF hS;obtain ⟨x37,abB⟩:∃x,x=a.tmps.getD 37 undef:=⟨_,rfl⟩
      have P37:xZ w4 x37 n (H):=by rw [abB];exact (hS 4 _ rfl).2.1 rfl
      obtain ⟨x38,hx38⟩:∃x,x=a.tmps.getD 38 undef:=⟨_,rfl⟩
      have P38:Rd .u8 w4 x38 n (H):=by rw [hx38];exact (hS 5 _ rfl).2.2.1 rfl
      obtain ⟨x4,hx4⟩:∃x,x=a.tmps.getD 4 undef:=⟨_,rfl⟩
      have P4:Rd .u8 w4 x4 n (H):=by rw [hx4];exact (hS 7 _ rfl).2.2.2 rfl
      have ha:=aI rfl rfl hF [_,_,_,_,x37,x38,_,x4,_] rfl ⟨(hS 0 _ rfl).1,(hS 1 _ rfl).1,(hS 2 _ rfl).1,(hS 3 _ rfl).1,abB.symm,hx38.symm,(hS 6 _ rfl).1,hx4.symm,(hS 8 _ rfl).1,trivial⟩;simp only [puts,Act.put,dQ,dR,dS] at ha;subst ha;clear abB hx38 hx4;clear hS hF;have hb4:=hbel.trans (hB.mono hbel.size);have HR:=ak (HR2.out (by trivial) _ _ P4);clear P4 P37 P38;go_wp2;go_ret2;exact ⟨_,_,rfl,HR.out,hb4⟩
theorem yx (S U:Int):0<=mulN S U/\mulN S U<256 ^ 32:=by
 have h0:=Int.emod_nonneg (iH (dP S) (U % 2 ^ 255)) (show Pr≠0 by decide);have h1:=Da (iH (dP S) (U % 2 ^ 255)) Fh;have h2:Pr<=256 ^ 32:=by decide
 exact ⟨h0,Int.lt_of_lt_of_le h1 h2⟩
theorem NV (S P:Int) (n:Nat) (f:Nat->Int):tT (lI S P n f)=mulN S 9:=by
 have h:sm 256 (lI S P n f) 32=sm 256 (dg 256 (mulN S 9)) 32:=iA fun i hi=> NG hi;unfold tT;rw [h,nX (by decide),Ju (yx S 9).1 (yx S 9).2]
theorem WC (S P:Int) (n:Nat) (f:Nat->Int) (i:Nat):0<=lI S P n f i/\lI S P n f i<256:=by
 unfold lI lH
 split
 ·exact bE (by decide) _ _
 ·exact wO _ _ _ _ _ _ _
theorem WA (S P:Int) (n:Nat) (f:Nat->Int):(fun i=> lI S P n f (32+i))=jL (qJ (mulN S P) (mulN S 9) P) zG 0 zG n f:=funext fun _=> yF
theorem abh (S T:Int):mulN T (mulN S 9)=mulN S (mulN T 9):=Jc T S (9 % 2 ^ 255)
end Go.Proofs.YtpcjekgfnfjbpaaGreat
