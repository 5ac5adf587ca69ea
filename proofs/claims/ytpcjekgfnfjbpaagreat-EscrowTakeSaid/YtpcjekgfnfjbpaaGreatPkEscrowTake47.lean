/-
  Part 47 of EscrowTake. Conditions: named in each theorem.
-/
import Derived.Test.YtpcjekgfnfjbpaaGreatPkEscrowTake45
import Derived.Test.YtpcjekgfnfjbpaaGreatPkEscrowTake11
import Derived.Test.YtpcjekgfnfjbpaaGreatPkEscrowTake37
set_option linter.unusedVariables false
set_option linter.unusedSimpArgs false
set_option maxRecDepth 100000
set_option maxHeartbeats 6400000
namespace Go.aZ
open Go.RowKit
def Aw (w:World) (b:Nat) (cs:Array Value):Prop:=∃T,w.heap[b]? =some (.cells cs T (0,0))
theorem Aw.lt {w:World} {b:Nat} {cs:Array Value} (h:Aw w b cs):b<w.heap.size:=by obtain ⟨T,h⟩:=h;exact (Array.getElem?_eq_some_iff.1 h).1
theorem Aw.newAt {w:World} {T:TypeId} {b:Nat} {cs:Array Value} (hb:b=w.heap.size):Aw (w.alloc (.cells cs T)) b cs:=by subst hb;exact ⟨T,heap_alloc_new w _⟩
theorem Aw.kept {w w':World} {b:Nat} {cs:Array Value} (h:Aw w b cs) (hb:Below w.heap.size w w'):Aw w' b cs:=by
 have hlt:=h.lt;obtain ⟨T,h⟩:=h;exact ⟨T,by rw [hb.block b hlt];exact h⟩
theorem Aw.cell {w:World} {b:Nat} {cs:Array Value} (h:Aw w b cs) (i:Nat) {v:Value} (hv:cs[i]? =some v):w.cell? ⟨b,i,none⟩=some v:=by
 obtain ⟨T,h⟩:=h;rw [cell_of_row w b i _ T (0,0) h,hv]
section
variable {P : Program} {ops : Array Oper} {rest : List Oper} {o : Oper} {a : Act} {w : World} {Q : Exit -> Act -> World -> Prop}
end
end Go.aZ
namespace Go.aZ
def raL (X Y Z U V R D:Int):Int:=(Z * R) * (Z * R) - D * ((X * U) * (Y * V))
def raM (X Y Z U V R D:Int):Int:=(Z * R) * (Z * R)+D * ((X * U) * (Y * V))
def raC (X Y U V:Int):Int:=(X+Y) * (U+V) - X * U - Y * V
def raX (X Y Z U V R D:Int):Int:=(Z * R) * (raL X Y Z U V R D * raC X Y U V)
def raY (X Y Z U V R D:Int):Int:=(Z * R) * (raM X Y Z U V R D * (Y * V+X * U))
def raZ (X Y Z U V R D:Int):Int:=raL X Y Z U V R D * raM X Y Z U V R D
end Go.aZ
namespace Go.aZ
open Go.RowKit
theorem Ih (f g h e x:Nat->Int) (i:Nat) (_:i<64):laid (pt f g h e) 0 16 x i=pt x g h e i:=by
 unfold laid pt
 repeat' split
 all_goals first | rfl | (exfalso;omega) | (congr 1;omega)
theorem Ig (f g h e x:Nat->Int) (i:Nat) (_:i<64):laid (pt f g h e) 16 16 x i=pt f x h e i:=by
 unfold laid pt
 repeat' split
 all_goals first | rfl | (exfalso;omega) | (congr 1;omega)
theorem Ie (f g h e x:Nat->Int) (i:Nat) (_:i<64):laid (pt f g h e) 32 16 x i=pt f g x e i:=by
 unfold laid pt
 repeat' split
 all_goals first | rfl | (exfalso;omega) | (congr 1;omega)
theorem Ic (f g h e x:Nat->Int) (i:Nat) (_:i<64):laid (pt f g h e) 48 16 x i=pt f g h x i:=by
 unfold laid pt
 repeat' split
 all_goals first | rfl | (exfalso;omega) | (congr 1;omega)
theorem Cz {P:Program} {o:Oper} {a:Act} {w:World} {v:Value} {S:Value->World->Prop} {E:World->Prop} {Q:Exit->Act->World->Prop} (hd:∀h:o.dst=none,v=undef) (hr:(execOp a.eval o).run P w=.ok (.value v) w) (hs:S v w) (hE:E w):
  o.wp P a w (fun a' w'=> ∃v,a'=a.put o.dst v/\(o.dst=none->v=undef)/\S v w'/\E w') Q:=by
 unfold Oper.wp;rw [hr];exact ⟨v,rfl,fun h=> hd h,hs,hE⟩
theorem fH {P:Program} {w:World} {k:IntKind} {b off n m:Nat} {f:Nat->Int} (h:aF k w b n f) (hm:off+m<=n) (g:Nat->Int):(storeCells ⟨b,off,none⟩ (arr k m g).toList).run P w=.ok () (w.setCells b off (vals k m g)):=by
 have hv:(arr k m g).toList=vals k m g:=rfl;rw [hv];have h1:=run_storeCells_cells (P:=P) b off (vals k m g) 0 w (fun j hj=> by rw [dh] at hj;rw [Nat.add_zero,h.cell (off+j) (by omega)];rfl) (fun j hj=> h.free _) (fun v hv=> by obtain ⟨_,_,rfl⟩:=List.mem_map.1 hv;rfl)
 simpa using h1
end Go.aZ
namespace Go.Proofs.YtpcjekgfnfjbpaaGreat
open Go.RowKit Go.aZ Go.ChangeShapes
attribute [local go_sem ↓] Go.wp_at_zero Go.wp_at_succ
abbrev Pt (f g h e:Nat->Int):Value:=.agg (arr .i64 64 (pt f g h e))
theorem Tryz.size193:(Tryz.prog.info? 193).map (·.size)=some 64:=by kernel_rfl
theorem Jj (f g h e:Nat->Int) (w:World):(Instr.build 193 #[(0,.agg (arr .i64 16 f)),(1,.agg (arr .i64 16 g)),(2,.agg (arr .i64 16 h)),(3,.agg (arr .i64 16 e))]).run Tryz.prog w=.ok (Pt f g h e) w:=
 Go.run_build w _ _ (arr .i64 64 (pt f g h e)) (by kernel_rfl)
def jq:Nat->Int:=qp (aM (bU (aN 60832) (aN 60833)) (ji (bU (aN 60833) (aN 60833))))
def dN:Int:= -((60832+60833) * vP (60833+60833))
theorem mo (n:Int) (h:pX n=n):Fe (aN n) n:=by have:=mh n;rwa [h] at this
theorem nE:Fe (aN 60833) 60833:=mo _ (by decide)
theorem Nu:Fe (aN 60832) 60832:=mo _ (by decide)
theorem Ns:Fe (aN 0) 0:=mo _ (by decide)
theorem pI:Fe (aN 1) 1:=mo _ (by decide)
theorem jS:Fe jq dN:=((Nu.bU nE).aM (jB (nE.bU nE))).qp
theorem Rm:toF dN=dE:=by
 unfold dN vP dE;rw [show (60832+60833:Int)=121665 by decide,show (60833+60833:Int)=121666 by decide,mY,dx,tV]
def sA (f g u v:Nat->Int):Nat->Int:=aM (dU g f) (dU v u)
def sB (f g u v:Nat->Int):Nat->Int:=aM (bU g f) (bU v u)
def sC (e s d:Nat->Int):Nat->Int:=aM (aM e s) d
def sD (h r:Nat->Int):Nat->Int:=bU (aM h r) (aM h r)
def sumX (f g h e u v r s d:Nat->Int):Nat->Int:=aM (dU (sB f g u v) (sA f g u v)) (dU (sD h r) (sC e s d))
def aaB (f g h e u v r s d:Nat->Int):Nat->Int:=aM (bU (sD h r) (sC e s d)) (bU (sB f g u v) (sA f g u v))
def sumZ (f g h e u v r s d:Nat->Int):Nat->Int:=aM (dU (sD h r) (sC e s d)) (bU (sD h r) (sC e s d))
def aaC (f g h e u v r s d:Nat->Int):Nat->Int:=aM (dU (sB f g u v) (sA f g u v)) (bU (sB f g u v) (sA f g u v))
theorem wH.sum {f g h e u v r s d:Nat->Int} {X Y Z T U V W S D:Int} (hp:wH f g h e X Y Z T) (hq:wH u v r s U V W S) (hd:Fe d D):
  wH (sumX f g h e u v r s d) (aaB f g h e u v r s d) (sumZ f g h e u v r s d) (aaC f g h e u v r s d) (smE X Y U V * smF Z T W S D) (smG Z T W S D * smH X Y U V) (smF Z T W S D * smG Z T W S D) (smE X Y U V * smH X Y U V):=by
 obtain ⟨p1,p2,p3,p4⟩:=hp;obtain ⟨q1,q2,q3,q4⟩:=hq;have a:=(p2.dU p1).aM (q2.dU q1);have b:=(p2.bU p1).aM (q2.bU q1);have c:=(p4.aM q4).aM hd;have dd:=(p3.aM q3).bU (p3.aM q3);exact ⟨(b.dU a).aM (dd.dU c),(dd.bU c).aM (b.bU a),(dd.dU c).aM (dd.bU c),(b.dU a).aM (b.bU a)⟩
theorem wW (w:World):Calls Tryz.prog 217 #[] w fun e w'=> e=.returned (El jq)/\Below w.heap.size w w':=by
 have HS:Hid (∀n w,Calls Tryz.prog 200 #[.int .i64 n] w fun e w'=> e=.returned (.agg (arr .i64 16 (aN n)))/\Below w.heap.size w w'):=fun n w=> dW n w;unfold El
 go_enter Tryz.func217,Tryz.ntmps217
 go_upto_region 1 with (fail);refine aD (fun w1=> aF .i64 w1 w.heap.size 16 (fun _=> 0)/\Below w.heap.size w w1) ⟨bM rfl (by rfl),(bN _ _).alloc (bA _) _⟩ ?_;rintro w1 ⟨hZ,hbel⟩
 refine bB (n:=14) (by kernel_rfl) (by kernel_rfl) (by kernel_rfl) rfl
  (jh [(4,2),(5,3)]) (fJ [(4,2),(5,3)]) (fun _=> arr .i64 16 (fun _=> 0)) (fun i=> match i with | 2=> (arr .i64 16 (aN 60833)) | 3=> (arr .i64 16 (aN 60832)) | _=> #[]) (fun _=> 191) (fun i=> match i with | 2=> 1 | 3=> 2 | _=> 0)
  (fun ii vv _=> (match ii with | 0=> vv=.agg (arr .i64 16 (aN 60833)) | 1=> vv=.agg (arr .i64 16 (aN 60832)) | _=> True)) (fun _ _=> True) (fun _ _ _=> trivial) (fun _ _ _ _ _ _ _=> trivial) (fun _ _ _ _ h _=> h)
  (gF rfl) (eG rfl) ?_ ?_ ?_ ?_
 ·refine cO ?_;refine ⟨?_,?_,(fun h=> by cases h),(fun h=> by cases h),(fun _ h=> by cases h),(fun _ h=> by cases h),trivial⟩
  ·intro _ _ a w2 hB hF hd;refine aH <| aC _ _ _ rfl Tryz.call200 _ (args1 rfl) (by simp) ((dW 60833 w2).mono ?_);rintro e w3 ⟨rfl,hb⟩;exact ⟨_,rfl,rfl,hb⟩
  ·intro _ _ a w2 hB hF hd;refine aH <| aC _ _ _ rfl Tryz.call200 _ (args1 rfl) (by simp) ((dW 60832 w2).mono ?_);rintro e w3 ⟨rfl,hb⟩;exact ⟨_,rfl,rfl,hb⟩
 ·refine cO ?_;refine ⟨(fun h=> by cases h),(fun h=> by cases h),?_,?_,(fun h=> by cases h),(fun h=> by cases h),trivial⟩
  ·exact fun _=> ⟨rfl,rfl,fun a w2 K h=> aU rfl rfl Tryz.zeroValue191 (by simp) h⟩
  ·exact fun _=> ⟨rfl,rfl,fun a w2 K h=> aU rfl rfl Tryz.zeroValue191 (by simp) h⟩
 ·refine cO ?_;refine ⟨(fun _ h=> by cases h),(fun _ h=> by cases h),(fun _ h=> by cases h),(fun _ h=> by cases h),?_,?_,trivial⟩
  ·intro p hp;obtain rfl:2=p:=fO hp;exact ⟨rfl,rfl,⟨_,rfl⟩,aj rfl,fun a w2 b K hB hF hd hx hb h=> bD rfl rfl bC hx (hd 0 _ rfl rfl rfl (aj rfl)) hb h⟩
  ·intro p hp;obtain rfl:3=p:=fO hp;exact ⟨rfl,rfl,⟨_,rfl⟩,aj rfl,fun a w2 b K hB hF hd hx hb h=> bD rfl rfl bC hx (hd 1 _ rfl rfl rfl (aj rfl)) hb h⟩
 ·intro a w2 blk hB hF hS hv hfin dD;obtain ⟨v2,v2l,v2u⟩:=hv 2 _ rfl rfl;obtain ⟨v3,Dn,NU⟩:=hv 3 _ rfl rfl;have ha:=aI rfl rfl hF [_,_,_,_,undef,undef] rfl ⟨hS 0 _ rfl rfl rfl,hS 1 _ rfl rfl rfl,v2,v3,trivial,trivial,trivial⟩;have f2:=hfin 4 _ 2 rfl rfl;have f3:=hfin 5 _ 3 rfl rfl;have IV:=dD 2 3 _ _ rfl rfl rfl rfl (by decide);simp only [puts,Act.put,dQ,dR,dS] at ha;subst ha;have V2:aF .i64 w2 (blk 2) 16 (aN 60833):=⟨_,f2⟩
  have V3:aF .i64 w2 (blk 3) 16 (aN 60832):=⟨_,f3⟩
  clear hS hv hfin dD hF v2 v3 f2 f3;have hz:=hZ.lt;replace hZ:=hZ.kept hB;replace hbel:=hbel.trans (hB.mono hbel.size);obtain ⟨x,hx⟩:∃x,x=blk 2:=⟨_,rfl⟩
  obtain ⟨y,hy⟩:∃x,x=blk 3:=⟨_,rfl⟩
  rw [<-hx] at V2 ⊢;rw [<-hy] at V3 ⊢;have h1:=V2;have h2:=V3;clear hB V2 V3 hx hy;go_upto_region 2 with (fail)
  refine dw (n:=14) (fun i=> i==9) (by kernel_rfl) (by kernel_rfl) (by kernel_rfl) (by kernel_rfl) rfl
   (fun ii vv _=> (match ii with | 0=> vv=.agg (arr .i64 16 (aN 60832)) | 1 | 3 | 4=> vv=.agg (arr .i64 16 (aN 60833)) | 2=> vv=.agg (arr .i64 16 (bU (aN 60832) (aN 60833))) | 5=> vv=.agg (arr .i64 16 (bU (aN 60833) (aN 60833))) | 6=> vv=.agg (arr .i64 16 (ji (bU (aN 60833) (aN 60833)))) | 7=> vv=.agg (arr .i64 16 (aM (bU (aN 60832) (aN 60833)) (ji (bU (aN 60833) (aN 60833))))) | 8=> vv=.agg (arr .i64 16 (qp (aM (bU (aN 60832) (aN 60833)) (ji (bU (aN 60833) (aN 60833)))))) | _=> True))
   (fun w w'=> Below w.heap.size w w') (fun _ _ h=> h) (fun _ _ _ _ h _=> h)
   (fun _=> w.heap.size) (fun _=> (arr .i64 16 (fun _=> 0))) (fun _=> (arr .i64 16 (qp (aM (bU (aN 60832) (aN 60833)) (ji (bU (aN 60833) (aN 60833)))))))
   (by intro i j _ _ hpi iI hne;simp only [beq_iff_eq] at hpi iI;omega)
   (by intro i _ hpi;exact (hZ).row)
   ?_ ?_ ?_
  ·refine cO ?_;refine ⟨?_,?_,?_,?_,?_,?_,?_,?_,?_,(aJ),trivial⟩
   ·intro _ a w2 hB hF hd;exact aH <| aP (aB rfl bZ rfl bC (hF.same 2 rfl) (h2.below hB h2.lt)) rfl
   ·intro _ a w2 hB hF hd;exact aH <| aP (aB rfl bZ rfl bC (hF.same 1 rfl) (h1.below hB h1.lt)) rfl
   ·intro _ a w2 hB hF hd;refine aH <| aC _ _ _ rfl Tryz.call218 _ (args2 (hd 0 _ rfl rfl (aj rfl)) (hd 1 _ rfl rfl (aj rfl))) (by simp) ((gq _ _ _ _ Nu nE w2).mono ?_);rintro e w3 ⟨rfl,hb⟩;exact ⟨_,rfl,rfl,hb⟩
   ·intro _ a w2 hB hF hd;exact aH <| aP (aB rfl bZ rfl bC (hF.same 1 rfl) (h1.below hB h1.lt)) rfl
   ·intro _ a w2 hB hF hd;exact aH <| aP (aB rfl bZ rfl bC (hF.same 1 rfl) (h1.below hB h1.lt)) rfl
   ·intro _ a w2 hB hF hd;refine aH <| aC _ _ _ rfl Tryz.call218 _ (args2 (hd 3 _ rfl rfl (aj rfl)) (hd 4 _ rfl rfl (aj rfl))) (by simp) ((gq _ _ _ _ nE nE w2).mono ?_);rintro e w3 ⟨rfl,hb⟩;exact ⟨_,rfl,rfl,hb⟩
   ·intro _ a w2 hB hF hd;refine aH <| aC _ _ _ rfl Tryz.call204 _ (args1 (hd 5 _ rfl rfl (aj rfl))) (by simp) ((jw _ _ ((nE).bU nE) w2).mono ?_);rintro e w3 ⟨rfl,hb⟩;exact ⟨_,rfl,rfl,hb⟩
   ·intro _ a w2 hB hF hd;refine aH <| aC _ _ _ rfl Tryz.call203 _ (args2 (hd 2 _ rfl rfl (aj rfl)) (hd 6 _ rfl rfl (aj rfl))) (by simp) ((bI _ _ _ _ ((Nu).bU nE) (jB ((nE).bU nE)) w2).mono ?_);rintro e w3 ⟨rfl,hb⟩;exact ⟨_,rfl,rfl,hb⟩
   ·intro _ a w2 hB hF hd;refine aH <| aC _ _ _ rfl Tryz.call211 _ (args1 (hd 7 _ rfl rfl (aj rfl))) (by simp) ((vY _ _ ((((Nu).bU nE)).aM (jB ((nE).bU nE))) w2).mono ?_);rintro e w3 ⟨rfl,hb⟩;exact ⟨_,rfl,rfl,hb⟩
  ·refine cO ?_;refine ⟨(aJ),(aJ),(aJ),(aJ),(aJ),(aJ),(aJ),(aJ),(aJ),?_,trivial⟩
   ·intro _ a w1 w2 K hB hF hS hr hK;exact aX 191 _ _ rfl .i64 (w.heap.size) 16 (fun _=> 0) (qp (aM (bU (aN 60832) (aN 60833)) (ji (bU (aN 60833) (aN 60833))))) bC (hF.same 0 rfl) (hS 8 _ rfl rfl) hr hK
  ·intro a wf w3 hB hF hS hfil;have other:∀{k:IntKind} {qb n:Nat} {f:Nat->Int},qb≠w.heap.size->aF k wf qb n f->aF k w3 qb n f:=fun {k qb n f} e0 hA=> hfil.arr (by intro i _ hpi;simp only [jG,beq_iff_eq] at hpi;subst hpi<;> ((try simp only []);(try dsimp only);omega)) hA;have dF:∀{B:Nat} {w0:World},B<=w.heap.size->Below B w0 wf->Below B w0 w3:=fun {B w0} e0 hA=> hfil.below (by intro i _ hpi;simp only [jG,beq_iff_eq] at hpi;subst hpi<;> ((try simp only []);(try dsimp only);omega)) hA;have V9:aF .i64 w3 (w.heap.size) 16 (qp (aM (bU (aN 60832) (aN 60833)) (ji (bU (aN 60833) (aN 60833))))):=hfil.at 9 (by decide) rfl;have qz:=hfil.size;clear hfil;have ha:=aI rfl rfl hF [_,_,_,_,_,_,_,_,_,undef] rfl ⟨hS 0 _ rfl rfl,hS 1 _ rfl rfl,hS 2 _ rfl rfl,hS 3 _ rfl rfl,hS 4 _ rfl rfl,hS 5 _ rfl rfl,hS 6 _ rfl rfl,hS 7 _ rfl rfl,hS 8 _ rfl rfl,trivial,trivial⟩;simp only [puts,Act.put,dQ,dR,dS] at ha;subst ha;clear hS hF;have hb:=dF (bA _) (hbel.trans (hB.mono hbel.size));go_wp2;exact bodyPost_ret (dn rfl _ _ .i64 w.heap.size 16 _ rfl V9 bZ rfl bC) rfl ⟨rfl,hb⟩
theorem zw (f g:Nat->Int) (X Y:Int) (hf:Fe f X) (hg:Fe g Y) (w:World):Calls Tryz.prog 212 #[El f,El g] w fun e w'=> e=.returned (Pt f g (aN 1) (aM f g))/\Below w.heap.size w w':=by
 have HF:=ak hf;have HG:=ak hg;clear hf hg;unfold El Pt
 go_enter Tryz.func212,Tryz.ntmps212
 go_upto_region 1 with (fail);refine aD (fun w1=> aF .i64 w1 w.heap.size 16 f/\aF .i64 w1 (w.heap.size+1) 16 g/\aF .i64 w1 (w.heap.size+2) 64 (fun _=> 0)/\Below w.heap.size w w1) ⟨.alloc (.alloc (bM rfl rfl) _) _,.alloc (bM (by first | omega | (simp<;> omega)) rfl) _,bM (by first | omega | (simp<;> omega)) (by rfl),(((bN _ _).alloc (bA _) _).alloc (by first | omega | (simp<;> omega)) _).alloc (by first | omega | (simp<;> omega)) _⟩ ?_;rintro w1 ⟨hA,hC,hZ,hbel⟩
 refine dw (n:=12) (fun i=> i==7) (by kernel_rfl) (by kernel_rfl) (by kernel_rfl) (by kernel_rfl) rfl
  (fun ii vv _=> (match ii with | 0 | 3=> vv=.agg (arr .i64 16 (f)) | 1 | 4=> vv=.agg (arr .i64 16 (g)) | 2=> vv=.agg (arr .i64 16 (aN 1)) | 5=> vv=.agg (arr .i64 16 (aM (f) (g))) | 6=> vv=.agg (arr .i64 64 (pt (f) (g) (aN 1) (aM (f) (g)))) | _=> True))
  (fun w w'=> Below w.heap.size w w') (fun _ _ h=> h) (fun _ _ _ _ h _=> h)
  (fun _=> (w.heap.size+2)) (fun _=> (arr .i64 64 (fun _=> 0))) (fun _=> (arr .i64 64 (pt (f) (g) (aN 1) (aM (f) (g)))))
  (by intro i j _ _ hpi iI hne;simp only [beq_iff_eq] at hpi iI;omega)
  (by intro i _ hpi;exact (hZ).row)
  ?_ ?_ ?_
 ·refine cO ?_;refine ⟨?_,?_,?_,?_,?_,?_,?_,(aJ),trivial⟩
  ·intro _ a w2 hB hF hd;exact aH <| aP (aB rfl bZ rfl bC (hF.same 2 rfl) (hA.below hB hA.lt)) rfl
  ·intro _ a w2 hB hF hd;exact aH <| aP (aB rfl bZ rfl bC (hF.same 3 rfl) (hC.below hB hC.lt)) rfl
  ·intro _ a w2 hB hF hd;refine aH <| aC _ _ _ rfl Tryz.call200 _ (args1 rfl) (by simp) ((dW 1 w2).mono ?_);rintro e w3 ⟨rfl,hb⟩;exact ⟨_,rfl,rfl,hb⟩
  ·intro _ a w2 hB hF hd;exact aH <| aP (aB rfl bZ rfl bC (hF.same 2 rfl) (hA.below hB hA.lt)) rfl
  ·intro _ a w2 hB hF hd;exact aH <| aP (aB rfl bZ rfl bC (hF.same 3 rfl) (hC.below hB hC.lt)) rfl
  ·intro _ a w2 hB hF hd;refine aH <| aC _ _ _ rfl Tryz.call203 _ (args2 (hd 3 _ rfl rfl (aj rfl)) (hd 4 _ rfl rfl (aj rfl))) (by simp) ((bI _ _ _ _ HF.out HG.out w2).mono ?_);rintro e w3 ⟨rfl,hb⟩;exact ⟨_,rfl,rfl,hb⟩
  ·intro _ a w2 hB hF hd;exact aH <| aP (eD rfl (by simp only [vg,List.map_cons,List.map_nil,show a.eval (Operand.tmp 5)=.agg (arr .i64 16 (f)) from (hd 0 _ rfl rfl (aj rfl)),show a.eval (Operand.tmp 6)=.agg (arr .i64 16 (g)) from (hd 1 _ rfl rfl (aj rfl)),show a.eval (Operand.tmp 7)=.agg (arr .i64 16 (aN 1)) from (hd 2 _ rfl rfl (aj rfl)),show a.eval (Operand.tmp 10)=.agg (arr .i64 16 (aM (f) (g))) from (hd 5 _ rfl rfl (aj rfl))];exact Jj _ _ _ _ _)) rfl
 ·refine cO ?_;refine ⟨(aJ),(aJ),(aJ),(aJ),(aJ),(aJ),(aJ),?_,trivial⟩
  ·intro _ a w1 w2 K hB hF hS hr hK;exact aX 193 _ _ rfl .i64 ((w.heap.size+2)) 64 (fun _=> 0) (pt (f) (g) (aN 1) (aM (f) (g))) Tryz.size193 (hF.same 4 rfl) (hS 6 _ rfl rfl) hr hK
 ·intro a wf w3 hB hF hS hfil;have other:∀{k:IntKind} {qb n:Nat} {f:Nat->Int},qb≠(w.heap.size+2)->aF k wf qb n f->aF k w3 qb n f:=fun {k qb n f} e0 hA=> hfil.arr (by intro i _ hpi;simp only [jG,beq_iff_eq] at hpi;subst hpi<;> ((try simp only []);(try dsimp only);omega)) hA;have dF:∀{B:Nat} {w0:World},B<=(w.heap.size+2)->Below B w0 wf->Below B w0 w3:=fun {B w0} e0 hA=> hfil.below (by intro i _ hpi;simp only [jG,beq_iff_eq] at hpi;subst hpi<;> ((try simp only []);(try dsimp only);omega)) hA;have V7:aF .i64 w3 ((w.heap.size+2)) 64 (pt (f) (g) (aN 1) (aM (f) (g))):=hfil.at 7 (by decide) rfl;have qz:=hfil.size;clear hfil;have ha:=aI rfl rfl hF [_,_,_,_,_,_,_,undef] rfl ⟨hS 0 _ rfl rfl,hS 1 _ rfl rfl,hS 2 _ rfl rfl,hS 3 _ rfl rfl,hS 4 _ rfl rfl,hS 5 _ rfl rfl,hS 6 _ rfl rfl,trivial,trivial⟩;simp only [puts,Act.put,dQ,dR,dS] at ha;subst ha;clear hS hF;have hb:=dF (by omega) (hbel.trans (hB.mono hbel.size));go_wp2;exact bodyPost_ret (dn rfl _ _ .i64 (w.heap.size+2) 64 _ rfl V7 EZ rfl Tryz.size193) rfl ⟨rfl,hb⟩
theorem Eb (w:World):Calls Tryz.prog 219 #[] w fun e w'=> e=.returned (Pt (aN 0) (aN 1) (aN 1) (aM (aN 0) (aN 1)))/\Below w.heap.size w w':=by
 unfold Pt
 go_enter Tryz.func219,Tryz.ntmps219
 go_upto_region 1 with (fail);refine aD (fun w1=> aF .i64 w1 w.heap.size 64 (fun _=> 0)/\Below w.heap.size w w1) ⟨bM rfl (by rfl),(bN _ _).alloc (bA _) _⟩ ?_;rintro w1 ⟨hZ,hbel⟩
 refine dw (n:=4) (fun i=> i==3) (by kernel_rfl) (by kernel_rfl) (by kernel_rfl) (by kernel_rfl) rfl
  (fun ii vv _=> (match ii with | 0=> vv=.agg (arr .i64 16 (aN 0)) | 1=> vv=.agg (arr .i64 16 (aN 1)) | 2=> vv=.agg (arr .i64 64 (pt (aN 0) (aN 1) (aN 1) (aM (aN 0) (aN 1)))) | _=> True))
  (fun w w'=> Below w.heap.size w w') (fun _ _ h=> h) (fun _ _ _ _ h _=> h)
  (fun _=> w.heap.size) (fun _=> (arr .i64 64 (fun _=> 0))) (fun _=> (arr .i64 64 (pt (aN 0) (aN 1) (aN 1) (aM (aN 0) (aN 1)))))
  (by intro i j _ _ hpi iI hne;simp only [beq_iff_eq] at hpi iI;omega)
  (by intro i _ hpi;exact (hZ).row)
  ?_ ?_ ?_
 ·refine cO ?_;refine ⟨?_,?_,?_,(aJ),trivial⟩
  ·intro _ a w2 hB hF hd;refine aH <| aC _ _ _ rfl Tryz.call200 _ (args1 rfl) (by simp) ((dW 0 w2).mono ?_);rintro e w3 ⟨rfl,hb⟩;exact ⟨_,rfl,rfl,hb⟩
  ·intro _ a w2 hB hF hd;refine aH <| aC _ _ _ rfl Tryz.call200 _ (args1 rfl) (by simp) ((dW 1 w2).mono ?_);rintro e w3 ⟨rfl,hb⟩;exact ⟨_,rfl,rfl,hb⟩
  ·intro _ a w2 hB hF hd;refine aH <| aC _ _ _ rfl Tryz.call212 _ (args2 (hd 0 _ rfl rfl (aj rfl)) (hd 1 _ rfl rfl (aj rfl))) (by simp) ((zw _ _ _ _ Ns pI w2).mono ?_);rintro e w3 ⟨rfl,hb⟩;exact ⟨_,rfl,rfl,hb⟩
 ·refine cO ?_;refine ⟨(aJ),(aJ),(aJ),?_,trivial⟩
  ·intro _ a w1 w2 K hB hF hS hr hK;exact aX 193 _ _ rfl .i64 (w.heap.size) 64 (fun _=> 0) (pt (aN 0) (aN 1) (aN 1) (aM (aN 0) (aN 1))) Tryz.size193 (hF.same 0 rfl) (hS 2 _ rfl rfl) hr hK
 ·intro a wf w3 hB hF hS hfil;have other:∀{k:IntKind} {qb n:Nat} {f:Nat->Int},qb≠w.heap.size->aF k wf qb n f->aF k w3 qb n f:=fun {k qb n f} e0 hA=> hfil.arr (by intro i _ hpi;simp only [jG,beq_iff_eq] at hpi;subst hpi<;> ((try simp only []);(try dsimp only);omega)) hA;have dF:∀{B:Nat} {w0:World},B<=w.heap.size->Below B w0 wf->Below B w0 w3:=fun {B w0} e0 hA=> hfil.below (by intro i _ hpi;simp only [jG,beq_iff_eq] at hpi;subst hpi<;> ((try simp only []);(try dsimp only);omega)) hA;have V3:aF .i64 w3 (w.heap.size) 64 (pt (aN 0) (aN 1) (aN 1) (aM (aN 0) (aN 1))):=hfil.at 3 (by decide) rfl;have qz:=hfil.size;clear hfil;have ha:=aI rfl rfl hF [_,_,_,undef] rfl ⟨hS 0 _ rfl rfl,hS 1 _ rfl rfl,hS 2 _ rfl rfl,trivial,trivial⟩;simp only [puts,Act.put,dQ,dR,dS] at ha;subst ha;clear hS hF;have hb:=dF (bA _) (hbel.trans (hB.mono hbel.size));go_wp2;exact bodyPost_ret (dn rfl _ _ .i64 w.heap.size 64 _ rfl V3 EZ rfl Tryz.size193) rfl ⟨rfl,hb⟩
theorem OD (f g h e u v r s d:Nat->Int) (X Y Z T U V W S D:Int) (hp:wH f g h e X Y Z T) (hq:wH u v r s U V W S) (hd:Fe d D) (w:World):
  Calls Tryz.prog 221 #[Pt f g h e,Pt u v r s,El d] w fun e_ w'=> e_=.returned (Pt (sumX f g h e u v r s d) (aaB f g h e u v r s d) (sumZ f g h e u v r s d) (aaC f g h e u v r s d))/\Below w.heap.size w w':=by
 have HP:=ak hp;have HQ:=ak hq;have HD:=ak hd;clear hp hq hd;unfold Pt El
 go_enter Tryz.func221,Tryz.ntmps221
 go_upto_region 1 with (fail)
 refine aD (fun w1=> aF .i64 w1 w.heap.size 64 (pt f g h e)/\aF .i64 w1 (w.heap.size+1) 64 (pt u v r s)/\aF .i64 w1 (w.heap.size+2) 16 d/\aF .i64 w1 (w.heap.size+3) 64 (fun _=> 0)/\Below w.heap.size w w1)
  ⟨.alloc (.alloc (.alloc (bM rfl rfl) _) _) _,.alloc (.alloc (bM (by first | omega | (simp<;> omega)) rfl) _) _,.alloc (bM (by first | omega | (simp<;> omega)) rfl) _,bM (by first | omega | (simp<;> omega)) (by rfl),((((bN _ _).alloc (bA _) _).alloc (by first | omega | (simp<;> omega)) _).alloc (by first | omega | (simp<;> omega)) _).alloc (by first | omega | (simp<;> omega)) _⟩ ?_
 rintro w1 ⟨hA,hC,hE,hZ,hbel⟩;have hsz:w.heap.size+4<=w1.heap.size:=by have:=hZ.lt;omega
 refine bB (n:=77) (by kernel_rfl) (by kernel_rfl) (by kernel_rfl) rfl
  (jh [(12,11)]) (fJ [(12,11)]) (fun _=> arr .i64 16 (fun _=> 0)) (fun _=> (arr .i64 16 (aM (dU (g) (f)) (dU (v) (u))))) (fun _=> 191) (fun _=> 7)
  (fun ii vv _=> (match ii with | 0=> vv=.pointer (some ⟨w.heap.size,16,none⟩) | 1=> vv=.agg (arr .i64 16 (g)) | 2=> vv=.pointer (some ⟨w.heap.size,0,none⟩) | 3=> vv=.agg (arr .i64 16 (f)) | 4=> vv=.agg (arr .i64 16 (dU (g) (f))) | 5=> vv=.pointer (some ⟨(w.heap.size+1),16,none⟩) | 6=> vv=.agg (arr .i64 16 (v)) | 7=> vv=.pointer (some ⟨(w.heap.size+1),0,none⟩) | 8=> vv=.agg (arr .i64 16 (u)) | 9=> vv=.agg (arr .i64 16 (dU (v) (u))) | 10=> vv=.agg (arr .i64 16 (aM (dU (g) (f)) (dU (v) (u)))) | _=> True)) (fun _ _=> True) (fun _ _ _=> trivial) (fun _ _ _ _ _ _ _=> trivial) (fun _ _ _ _ h _=> h)
  (gF rfl) (eG rfl) ?_ ?_ ?_ ?_
 ·refine cO ?_;refine ⟨?_,?_,?_,?_,?_,?_,?_,?_,?_,?_,?_,(fun h=> by cases h),(fun _ h=> by cases h),trivial⟩
  ·intro _ _ a w2 hB hF hd;refine aH <| aP (aW (m:=15) (k:=16) rfl (hF.same 3 rfl) (by kernel_rfl)) ?_;exact rfl
  ·intro _ _ a w2 hB hF hd;exact aH <| aP (bH rfl (hd 0 _ rfl rfl rfl (aj rfl)) bZ rfl bC (fun i hi=> (hB.cell (p:=⟨w.heap.size,16+i,none⟩) hA.lt).trans (Kv hA i hi))) rfl
  ·intro _ _ a w2 hB hF hd;refine aH <| aP (aW (m:=15) (k:=0) rfl (hF.same 3 rfl) (by kernel_rfl)) ?_;exact rfl
  ·intro _ _ a w2 hB hF hd;exact aH <| aP (bH rfl (hd 2 _ rfl rfl rfl (aj rfl)) bZ rfl bC (fun i hi=> (hB.cell (p:=⟨w.heap.size,0+i,none⟩) hA.lt).trans (Gv hA i hi))) rfl
  ·intro _ _ a w2 hB hF hd;refine aH <| aC _ _ _ rfl Tryz.call244 _ (args2 (hd 1 _ rfl rfl rfl (aj rfl)) (hd 3 _ rfl rfl rfl (aj rfl))) (by simp) ((iD _ _ _ _ HP.out.2.1 HP.out.1 w2).mono ?_);rintro e w3 ⟨rfl,hb⟩;exact ⟨_,rfl,rfl,hb⟩
  ·intro _ _ a w2 hB hF hd;refine aH <| aP (aW (m:=15) (k:=16) rfl (hF.same 4 rfl) (by kernel_rfl)) ?_;exact rfl
  ·intro _ _ a w2 hB hF hd;exact aH <| aP (bH rfl (hd 5 _ rfl rfl rfl (aj rfl)) bZ rfl bC (fun i hi=> (hB.cell (p:=⟨(w.heap.size+1),16+i,none⟩) hC.lt).trans (Kv hC i hi))) rfl
  ·intro _ _ a w2 hB hF hd;refine aH <| aP (aW (m:=15) (k:=0) rfl (hF.same 4 rfl) (by kernel_rfl)) ?_;exact rfl
  ·intro _ _ a w2 hB hF hd;exact aH <| aP (bH rfl (hd 7 _ rfl rfl rfl (aj rfl)) bZ rfl bC (fun i hi=> (hB.cell (p:=⟨(w.heap.size+1),0+i,none⟩) hC.lt).trans (Gv hC i hi))) rfl
  ·intro _ _ a w2 hB hF hd;refine aH <| aC _ _ _ rfl Tryz.call244 _ (args2 (hd 6 _ rfl rfl rfl (aj rfl)) (hd 8 _ rfl rfl rfl (aj rfl))) (by simp) ((iD _ _ _ _ HQ.out.2.1 HQ.out.1 w2).mono ?_);rintro e w3 ⟨rfl,hb⟩;exact ⟨_,rfl,rfl,hb⟩
  ·intro _ _ a w2 hB hF hd;refine aH <| aC _ _ _ rfl Tryz.call203 _ (args2 (hd 4 _ rfl rfl rfl (aj rfl)) (hd 9 _ rfl rfl rfl (aj rfl))) (by simp) ((bI _ _ _ _ ((HP.out.2.1).dU HP.out.1) ((HQ.out.2.1).dU HQ.out.1) w2).mono ?_);rintro e w3 ⟨rfl,hb⟩;exact ⟨_,rfl,rfl,hb⟩
 ·refine cO ?_;refine ⟨(fun h=> by cases h),(fun h=> by cases h),(fun h=> by cases h),(fun h=> by cases h),(fun h=> by cases h),(fun h=> by cases h),(fun h=> by cases h),(fun h=> by cases h),(fun h=> by cases h),(fun h=> by cases h),(fun h=> by cases h),?_,(fun h=> by cases h),trivial⟩
  ·exact fun _=> ⟨rfl,rfl,fun a w2 K h=> aU rfl rfl Tryz.zeroValue191 (by simp) h⟩
 ·refine cO ?_;refine ⟨(fun _ h=> by cases h),(fun _ h=> by cases h),(fun _ h=> by cases h),(fun _ h=> by cases h),(fun _ h=> by cases h),(fun _ h=> by cases h),(fun _ h=> by cases h),(fun _ h=> by cases h),(fun _ h=> by cases h),(fun _ h=> by cases h),(fun _ h=> by cases h),(fun _ h=> by cases h),?_,trivial⟩
  ·intro p hp;obtain rfl:11=p:=fO hp;exact ⟨rfl,rfl,⟨_,rfl⟩,aj rfl,fun a w2 b K hB hF hd hx hb h=> bD rfl rfl bC hx (hd 10 _ rfl rfl rfl (aj rfl)) hb h⟩
 ·intro a w2 blk hB hF hS hv hfin dD;obtain ⟨v11,yQ,QV⟩:=hv 11 _ rfl rfl;have ha:=aI rfl rfl hF [_,_,_,_,_,_,_,_,_,_,_,_,undef] rfl ⟨hS 0 _ rfl rfl rfl,hS 1 _ rfl rfl rfl,hS 2 _ rfl rfl rfl,hS 3 _ rfl rfl rfl,hS 4 _ rfl rfl rfl,hS 5 _ rfl rfl rfl,hS 6 _ rfl rfl rfl,hS 7 _ rfl rfl rfl,hS 8 _ rfl rfl rfl,hS 9 _ rfl rfl rfl,hS 10 _ rfl rfl rfl,v11,trivial,trivial⟩;have f11:=hfin 12 _ 11 rfl rfl;simp only [puts,Act.put,dQ,dR,dS] at ha;subst ha;have VR:aF .i64 w2 (blk 11) 16 (aM (dU (g) (f)) (dU (v) (u))):=⟨_,f11⟩
  clear hS hv hfin dD hF v11 f11;replace hA:=hA.kept hB;replace hC:=hC.kept hB;replace hE:=hE.kept hB;replace hZ:=hZ.kept hB;obtain ⟨baa,Lh⟩:∃x,x=blk 11:=⟨_,rfl⟩
  obtain ⟨aa,haa,Xaa,QI⟩:∃x,x=aM (dU g f) (dU v u)/\∃N,Hid (Fe x N):=⟨_,rfl,_,(HP.out.2.1.dU HP.out.1).aM (HQ.out.2.1.dU HQ.out.1)⟩
  rw [<-haa,←Lh] at VR;rw [<-Lh] at yQ ⊢;have laa:w.heap.size+4<=baa:=gQ hsz yQ;have Kaa:=ak haa;replace hbel:=hbel.trans (hB.mono hbel.size);replace hsz:=gQ hsz hB.size;clear hB haa Lh;have jW:=VR;clear VR yQ QV;go_upto_region 2 with (fail)
  refine bB (n:=77) (by kernel_rfl) (by kernel_rfl) (by kernel_rfl) rfl
   (jh [(12,11)]) (fJ [(12,11)]) (fun _=> arr .i64 16 (fun _=> 0)) (fun _=> (arr .i64 16 (aM (bU (g) (f)) (bU (v) (u))))) (fun _=> 191) (fun _=> 8)
   (fun ii vv _=> (match ii with | 0=> vv=.pointer (some ⟨w.heap.size,16,none⟩) | 1=> vv=.agg (arr .i64 16 (g)) | 2=> vv=.pointer (some ⟨w.heap.size,0,none⟩) | 3=> vv=.agg (arr .i64 16 (f)) | 4=> vv=.agg (arr .i64 16 (bU (g) (f))) | 5=> vv=.pointer (some ⟨(w.heap.size+1),16,none⟩) | 6=> vv=.agg (arr .i64 16 (v)) | 7=> vv=.pointer (some ⟨(w.heap.size+1),0,none⟩) | 8=> vv=.agg (arr .i64 16 (u)) | 9=> vv=.agg (arr .i64 16 (bU (v) (u))) | 10=> vv=.agg (arr .i64 16 (aM (bU (g) (f)) (bU (v) (u)))) | _=> True)) (fun _ _=> True) (fun _ _ _=> trivial) (fun _ _ _ _ _ _ _=> trivial) (fun _ _ _ _ h _=> h)
   (gF rfl) (eG rfl) ?_ ?_ ?_ ?_
  ·refine cO ?_;refine ⟨?_,?_,?_,?_,?_,?_,?_,?_,?_,?_,?_,(fun h=> by cases h),(fun _ h=> by cases h),trivial⟩
   ·intro _ _ a w2 hB hF hd;refine aH <| aP (aW (m:=15) (k:=16) rfl (hF.same 3 rfl) (by kernel_rfl)) ?_;exact rfl
   ·intro _ _ a w2 hB hF hd;exact aH <| aP (bH rfl (hd 0 _ rfl rfl rfl (aj rfl)) bZ rfl bC (fun i hi=> (hB.cell (p:=⟨w.heap.size,16+i,none⟩) hA.lt).trans (Kv hA i hi))) rfl
   ·intro _ _ a w2 hB hF hd;refine aH <| aP (aW (m:=15) (k:=0) rfl (hF.same 3 rfl) (by kernel_rfl)) ?_;exact rfl
   ·intro _ _ a w2 hB hF hd;exact aH <| aP (bH rfl (hd 2 _ rfl rfl rfl (aj rfl)) bZ rfl bC (fun i hi=> (hB.cell (p:=⟨w.heap.size,0+i,none⟩) hA.lt).trans (Gv hA i hi))) rfl
   ·intro _ _ a w2 hB hF hd;refine aH <| aC _ _ _ rfl Tryz.call218 _ (args2 (hd 1 _ rfl rfl rfl (aj rfl)) (hd 3 _ rfl rfl rfl (aj rfl))) (by simp) ((gq _ _ _ _ HP.out.2.1 HP.out.1 w2).mono ?_);rintro e w3 ⟨rfl,hb⟩;exact ⟨_,rfl,rfl,hb⟩
   ·intro _ _ a w2 hB hF hd;refine aH <| aP (aW (m:=15) (k:=16) rfl (hF.same 4 rfl) (by kernel_rfl)) ?_;exact rfl
   ·intro _ _ a w2 hB hF hd;exact aH <| aP (bH rfl (hd 5 _ rfl rfl rfl (aj rfl)) bZ rfl bC (fun i hi=> (hB.cell (p:=⟨(w.heap.size+1),16+i,none⟩) hC.lt).trans (Kv hC i hi))) rfl
   ·intro _ _ a w2 hB hF hd;refine aH <| aP (aW (m:=15) (k:=0) rfl (hF.same 4 rfl) (by kernel_rfl)) ?_;exact rfl
   ·intro _ _ a w2 hB hF hd;exact aH <| aP (bH rfl (hd 7 _ rfl rfl rfl (aj rfl)) bZ rfl bC (fun i hi=> (hB.cell (p:=⟨(w.heap.size+1),0+i,none⟩) hC.lt).trans (Gv hC i hi))) rfl
   ·intro _ _ a w2 hB hF hd;refine aH <| aC _ _ _ rfl Tryz.call218 _ (args2 (hd 6 _ rfl rfl rfl (aj rfl)) (hd 8 _ rfl rfl rfl (aj rfl))) (by simp) ((gq _ _ _ _ HQ.out.2.1 HQ.out.1 w2).mono ?_);rintro e w3 ⟨rfl,hb⟩;exact ⟨_,rfl,rfl,hb⟩
   ·intro _ _ a w2 hB hF hd;refine aH <| aC _ _ _ rfl Tryz.call203 _ (args2 (hd 4 _ rfl rfl rfl (aj rfl)) (hd 9 _ rfl rfl rfl (aj rfl))) (by simp) ((bI _ _ _ _ ((HP.out.2.1).bU HP.out.1) ((HQ.out.2.1).bU HQ.out.1) w2).mono ?_);rintro e w3 ⟨rfl,hb⟩;exact ⟨_,rfl,rfl,hb⟩
  ·refine cO ?_;refine ⟨(fun h=> by cases h),(fun h=> by cases h),(fun h=> by cases h),(fun h=> by cases h),(fun h=> by cases h),(fun h=> by cases h),(fun h=> by cases h),(fun h=> by cases h),(fun h=> by cases h),(fun h=> by cases h),(fun h=> by cases h),?_,(fun h=> by cases h),trivial⟩
   ·exact fun _=> ⟨rfl,rfl,fun a w2 K h=> aU rfl rfl Tryz.zeroValue191 (by simp) h⟩
  ·refine cO ?_;refine ⟨(fun _ h=> by cases h),(fun _ h=> by cases h),(fun _ h=> by cases h),(fun _ h=> by cases h),(fun _ h=> by cases h),(fun _ h=> by cases h),(fun _ h=> by cases h),(fun _ h=> by cases h),(fun _ h=> by cases h),(fun _ h=> by cases h),(fun _ h=> by cases h),(fun _ h=> by cases h),?_,trivial⟩
   ·intro p hp;obtain rfl:11=p:=fO hp;exact ⟨rfl,rfl,⟨_,rfl⟩,aj rfl,fun a w2 b K hB hF hd hx hb h=> bD rfl rfl bC hx (hd 10 _ rfl rfl rfl (aj rfl)) hb h⟩
  ·intro a w3 blk hB hF hS hv hfin dD;obtain ⟨v11,yQ,QV⟩:=hv 11 _ rfl rfl;have ha:=aI rfl rfl hF [_,_,_,_,_,_,_,_,_,_,_,_,undef] rfl ⟨hS 0 _ rfl rfl rfl,hS 1 _ rfl rfl rfl,hS 2 _ rfl rfl rfl,hS 3 _ rfl rfl rfl,hS 4 _ rfl rfl rfl,hS 5 _ rfl rfl rfl,hS 6 _ rfl rfl rfl,hS 7 _ rfl rfl rfl,hS 8 _ rfl rfl rfl,hS 9 _ rfl rfl rfl,hS 10 _ rfl rfl rfl,v11,trivial,trivial⟩;have f11:=hfin 12 _ 11 rfl rfl;simp only [puts,Act.put,dQ,dR,dS] at ha;subst ha;have VR:aF .i64 w3 (blk 11) 16 (aM (bU (g) (f)) (bU (v) (u))):=⟨_,f11⟩
   clear hS hv hfin dD hF v11 f11;replace hA:=hA.kept hB;replace hC:=hC.kept hB;replace hE:=hE.kept hB;replace hZ:=hZ.kept hB;replace jW:=jW.kept hB;obtain ⟨bbb,Lg⟩:∃x,x=blk 11:=⟨_,rfl⟩
   obtain ⟨bb,hbb,Xbb,YN⟩:∃x,x=aM (bU g f) (bU v u)/\∃N,Hid (Fe x N):=⟨_,rfl,_,(HP.out.2.1.bU HP.out.1).aM (HQ.out.2.1.bU HQ.out.1)⟩
   rw [<-hbb,←Lg] at VR;rw [<-Lg] at yQ ⊢;have lbb:w.heap.size+4<=bbb:=gQ hsz yQ;have Kbb:=ak hbb;replace hbel:=hbel.trans (hB.mono hbel.size);replace hsz:=gQ hsz hB.size;clear hB hbb Lg;have lN:=VR;clear VR yQ QV;go_upto_region 3 with (fail)
   refine bB (n:=77) (by kernel_rfl) (by kernel_rfl) (by kernel_rfl) rfl
    (jh [(8,7)]) (fJ [(8,7)]) (fun _=> arr .i64 16 (fun _=> 0)) (fun _=> (arr .i64 16 (aM (aM (e) (s)) (d)))) (fun _=> 191) (fun _=> 9)
    (fun ii vv _=> (match ii with | 0=> vv=.pointer (some ⟨w.heap.size,48,none⟩) | 1=> vv=.agg (arr .i64 16 (e)) | 2=> vv=.pointer (some ⟨(w.heap.size+1),48,none⟩) | 3=> vv=.agg (arr .i64 16 (s)) | 4=> vv=.agg (arr .i64 16 (aM (e) (s))) | 5=> vv=.agg (arr .i64 16 (d)) | 6=> vv=.agg (arr .i64 16 (aM (aM (e) (s)) (d))) | _=> True)) (fun _ _=> True) (fun _ _ _=> trivial) (fun _ _ _ _ _ _ _=> trivial) (fun _ _ _ _ h _=> h)
    (gF rfl) (eG rfl) ?_ ?_ ?_ ?_
   ·refine cO ?_;refine ⟨?_,?_,?_,?_,?_,?_,?_,(fun h=> by cases h),(fun _ h=> by cases h),trivial⟩
    ·intro _ _ a w2 hB hF hd;refine aH <| aP (aW (m:=15) (k:=48) rfl (hF.same 3 rfl) (by kernel_rfl)) ?_;exact rfl
    ·intro _ _ a w2 hB hF hd;exact aH <| aP (bH rfl (hd 0 _ rfl rfl rfl (aj rfl)) bZ rfl bC (fun i hi=> (hB.cell (p:=⟨w.heap.size,48+i,none⟩) hA.lt).trans (Xm hA i hi))) rfl
    ·intro _ _ a w2 hB hF hd;refine aH <| aP (aW (m:=15) (k:=48) rfl (hF.same 4 rfl) (by kernel_rfl)) ?_;exact rfl
    ·intro _ _ a w2 hB hF hd;exact aH <| aP (bH rfl (hd 2 _ rfl rfl rfl (aj rfl)) bZ rfl bC (fun i hi=> (hB.cell (p:=⟨(w.heap.size+1),48+i,none⟩) hC.lt).trans (Xm hC i hi))) rfl
    ·intro _ _ a w2 hB hF hd;refine aH <| aC _ _ _ rfl Tryz.call203 _ (args2 (hd 1 _ rfl rfl rfl (aj rfl)) (hd 3 _ rfl rfl rfl (aj rfl))) (by simp) ((bI _ _ _ _ HP.out.2.2.2 HQ.out.2.2.2 w2).mono ?_);rintro e w3 ⟨rfl,hb⟩;exact ⟨_,rfl,rfl,hb⟩
    ·intro _ _ a w2 hB hF hd;exact aH <| aP (aB rfl bZ rfl bC (hF.same 5 rfl) (hE.below hB hE.lt)) rfl
    ·intro _ _ a w2 hB hF hd;refine aH <| aC _ _ _ rfl Tryz.call203 _ (args2 (hd 4 _ rfl rfl rfl (aj rfl)) (hd 5 _ rfl rfl rfl (aj rfl))) (by simp) ((bI _ _ _ _ ((HP.out.2.2.2).aM HQ.out.2.2.2) HD.out w2).mono ?_);rintro e w3 ⟨rfl,hb⟩;exact ⟨_,rfl,rfl,hb⟩
   ·refine cO ?_;refine ⟨(fun h=> by cases h),(fun h=> by cases h),(fun h=> by cases h),(fun h=> by cases h),(fun h=> by cases h),(fun h=> by cases h),(fun h=> by cases h),?_,(fun h=> by cases h),trivial⟩
    ·exact fun _=> ⟨rfl,rfl,fun a w2 K h=> aU rfl rfl Tryz.zeroValue191 (by simp) h⟩
   ·refine cO ?_;refine ⟨(fun _ h=> by cases h),(fun _ h=> by cases h),(fun _ h=> by cases h),(fun _ h=> by cases h),(fun _ h=> by cases h),(fun _ h=> by cases h),(fun _ h=> by cases h),(fun _ h=> by cases h),?_,trivial⟩
    ·intro p hp;obtain rfl:7=p:=fO hp;exact ⟨rfl,rfl,⟨_,rfl⟩,aj rfl,fun a w2 b K hB hF hd hx hb h=> bD rfl rfl bC hx (hd 6 _ rfl rfl rfl (aj rfl)) hb h⟩
   ·intro a w4 blk hB hF hS hv hfin dD;obtain ⟨v7,Dm,Wp⟩:=hv 7 _ rfl rfl;have ha:=aI rfl rfl hF [_,_,_,_,_,_,_,_,undef] rfl ⟨hS 0 _ rfl rfl rfl,hS 1 _ rfl rfl rfl,hS 2 _ rfl rfl rfl,hS 3 _ rfl rfl rfl,hS 4 _ rfl rfl rfl,hS 5 _ rfl rfl rfl,hS 6 _ rfl rfl rfl,v7,trivial,trivial⟩;have f7:=hfin 8 _ 7 rfl rfl;simp only [puts,Act.put,dQ,dR,dS] at ha;subst ha;have V7:aF .i64 w4 (blk 7) 16 (aM (aM (e) (s)) (d)):=⟨_,f7⟩
    clear hS hv hfin dD hF v7 f7;replace hA:=hA.kept hB;replace hC:=hC.kept hB;replace hE:=hE.kept hB;replace hZ:=hZ.kept hB;replace jW:=jW.kept hB;replace lN:=lN.kept hB;obtain ⟨bcc,acn⟩:∃x,x=blk 7:=⟨_,rfl⟩
    obtain ⟨cc,hcc,Xcc,Hcc⟩:∃x,x=aM (aM e s) d/\∃N,Hid (Fe x N):=⟨_,rfl,_,(HP.out.2.2.2.aM HQ.out.2.2.2).aM HD.out⟩
    rw [<-hcc,←acn] at V7;rw [<-acn] at Dm ⊢;have lcc:w.heap.size+4<=bcc:=gQ hsz Dm;have Kcc:=ak hcc;replace hbel:=hbel.trans (hB.mono hbel.size);replace hsz:=gQ hsz hB.size;clear hB hcc acn;have zL:=V7;clear V7 Dm Wp;go_upto_region 4 with (fail)
    refine bB (n:=77) (by kernel_rfl) (by kernel_rfl) (by kernel_rfl) rfl
     (jh [(6,5)]) (fJ [(6,5)]) (fun _=> arr .i64 16 (fun _=> 0)) (fun _=> (arr .i64 16 (aM (h) (r)))) (fun _=> 191) (fun _=> 10)
     (fun ii vv _=> (match ii with | 0=> vv=.pointer (some ⟨w.heap.size,32,none⟩) | 1=> vv=.agg (arr .i64 16 (h)) | 2=> vv=.pointer (some ⟨(w.heap.size+1),32,none⟩) | 3=> vv=.agg (arr .i64 16 (r)) | 4=> vv=.agg (arr .i64 16 (aM (h) (r))) | _=> True)) (fun _ _=> True) (fun _ _ _=> trivial) (fun _ _ _ _ _ _ _=> trivial) (fun _ _ _ _ h _=> h)
     (gF rfl) (eG rfl) ?_ ?_ ?_ ?_
    ·refine cO ?_;refine ⟨?_,?_,?_,?_,?_,(fun h=> by cases h),(fun _ h=> by cases h),trivial⟩
     ·intro _ _ a w2 hB hF hd;refine aH <| aP (aW (m:=15) (k:=32) rfl (hF.same 3 rfl) (by kernel_rfl)) ?_;exact rfl
     ·intro _ _ a w2 hB hF hd;exact aH <| aP (bH rfl (hd 0 _ rfl rfl rfl (aj rfl)) bZ rfl bC (fun i hi=> (hB.cell (p:=⟨w.heap.size,32+i,none⟩) hA.lt).trans (Oy hA i hi))) rfl
     ·intro _ _ a w2 hB hF hd;refine aH <| aP (aW (m:=15) (k:=32) rfl (hF.same 4 rfl) (by kernel_rfl)) ?_;exact rfl
     ·intro _ _ a w2 hB hF hd;exact aH <| aP (bH rfl (hd 2 _ rfl rfl rfl (aj rfl)) bZ rfl bC (fun i hi=> (hB.cell (p:=⟨(w.heap.size+1),32+i,none⟩) hC.lt).trans (Oy hC i hi))) rfl
     ·intro _ _ a w2 hB hF hd;refine aH <| aC _ _ _ rfl Tryz.call203 _ (args2 (hd 1 _ rfl rfl rfl (aj rfl)) (hd 3 _ rfl rfl rfl (aj rfl))) (by simp) ((bI _ _ _ _ HP.out.2.2.1 HQ.out.2.2.1 w2).mono ?_);rintro e w3 ⟨rfl,hb⟩;exact ⟨_,rfl,rfl,hb⟩
    ·refine cO ?_;refine ⟨(fun h=> by cases h),(fun h=> by cases h),(fun h=> by cases h),(fun h=> by cases h),(fun h=> by cases h),?_,(fun h=> by cases h),trivial⟩
     ·exact fun _=> ⟨rfl,rfl,fun a w2 K h=> aU rfl rfl Tryz.zeroValue191 (by simp) h⟩
    ·refine cO ?_;refine ⟨(fun _ h=> by cases h),(fun _ h=> by cases h),(fun _ h=> by cases h),(fun _ h=> by cases h),(fun _ h=> by cases h),(fun _ h=> by cases h),?_,trivial⟩
     ·intro p hp;obtain rfl:5=p:=fO hp;exact ⟨rfl,rfl,⟨_,rfl⟩,aj rfl,fun a w2 b K hB hF hd hx hb h=> bD rfl rfl bC hx (hd 4 _ rfl rfl rfl (aj rfl)) hb h⟩
    ·intro a w5 blk hB hF hS hv hfin dD;obtain ⟨v5,Fu,Wq⟩:=hv 5 _ rfl rfl;have ha:=aI rfl rfl hF [_,_,_,_,_,_,undef] rfl ⟨hS 0 _ rfl rfl rfl,hS 1 _ rfl rfl rfl,hS 2 _ rfl rfl rfl,hS 3 _ rfl rfl rfl,hS 4 _ rfl rfl rfl,v5,trivial,trivial⟩;have f5:=hfin 6 _ 5 rfl rfl;simp only [puts,Act.put,dQ,dR,dS] at ha;subst ha;have V5:aF .i64 w5 (blk 5) 16 (aM (h) (r)):=⟨_,f5⟩
     clear hS hv hfin dD hF v5 f5;have Zk:=jW.lt;have Zj:=lN.lt;have Zi:=zL.lt;replace hA:=hA.kept hB;replace hC:=hC.kept hB;replace hE:=hE.kept hB;replace hZ:=hZ.kept hB;replace jW:=jW.kept hB;replace lN:=lN.kept hB;replace zL:=zL.kept hB;obtain ⟨YF,aci⟩:∃x,x=blk 5:=⟨_,rfl⟩
     obtain ⟨dd,hdd,Xdd,Hdd⟩:∃x,x=aM h r/\∃N,Hid (Fe x N):=⟨_,rfl,_,HP.out.2.2.1.aM HQ.out.2.2.1⟩
     rw [<-hdd,←aci] at V5;rw [<-aci] at Fu ⊢;have ldd:w.heap.size+4<=YF:=gQ hsz Fu;have Kdd:=ak hdd;have zaa:baa<YF:=pJ Zk Fu;have zbb:bbb<YF:=pJ Zj Fu;have zcc:bcc<YF:=pJ Zi Fu;clear Zk Zj Zi;replace hbel:=hbel.trans (hB.mono hbel.size);replace hsz:=gQ hsz hB.size;clear hB hdd aci;have Pj:=V5;clear V5 Fu Wq;go_upto_region 5 with (fail)
     refine dw (n:=77) (fun i=> i==3) (by kernel_rfl) (by kernel_rfl) (by kernel_rfl) (by kernel_rfl) rfl
      (fun ii vv _=> (match ii with | 0 | 1=> vv=.agg (arr .i64 16 (dd)) | 2=> vv=.agg (arr .i64 16 (bU (dd) (dd))) | _=> True))
      (fun w w'=> Below w.heap.size w w') (fun _ _ h=> h) (fun _ _ _ _ h _=> h)
      (fun _=> YF) (fun _=> (arr .i64 16 (dd))) (fun _=> (arr .i64 16 (bU (dd) (dd))))
      (by intro i j _ _ hpi iI hne;simp only [beq_iff_eq] at hpi iI;omega)
      (by intro i _ hpi;exact (Pj).row)
      ?_ ?_ ?_
     ·refine cO ?_;refine ⟨?_,?_,?_,(aJ),trivial⟩
      ·intro _ a w2 hB hF hd;exact aH <| aP (aB rfl bZ rfl bC (hF.same 10 rfl) (Pj.below hB Pj.lt)) rfl
      ·intro _ a w2 hB hF hd;exact aH <| aP (aB rfl bZ rfl bC (hF.same 10 rfl) (Pj.below hB Pj.lt)) rfl
      ·intro _ a w2 hB hF hd;refine aH <| aC _ _ _ rfl Tryz.call218 _ (args2 (hd 0 _ rfl rfl (aj rfl)) (hd 1 _ rfl rfl (aj rfl))) (by simp) ((gq _ _ _ _ Hdd.out Hdd.out w2).mono ?_);rintro e w3 ⟨rfl,hb⟩;exact ⟨_,rfl,rfl,hb⟩
     ·refine cO ?_;refine ⟨(aJ),(aJ),(aJ),?_,trivial⟩
      ·intro _ a w1 w2 K hB hF hS hr hK;exact aX 191 _ _ rfl .i64 (YF) 16 (dd) (bU (dd) (dd)) bC (hF.same 10 rfl) (hS 2 _ rfl rfl) hr hK
     ·intro a wf w6 hB hF hS hfil;have other:∀{k:IntKind} {qb n:Nat} {f:Nat->Int},qb≠YF->aF k wf qb n f->aF k w6 qb n f:=fun {k qb n f} e0 hA=> hfil.arr (by intro i _ hpi;simp only [jG,beq_iff_eq] at hpi;subst hpi<;> ((try simp only []);(try dsimp only);omega)) hA;have dF:∀{B:Nat} {w0:World},B<=YF->Below B w0 wf->Below B w0 w6:=fun {B w0} e0 hA=> hfil.below (by intro i _ hpi;simp only [jG,beq_iff_eq] at hpi;subst hpi<;> ((try simp only []);(try dsimp only);omega)) hA;have V3:aF .i64 w6 (YF) 16 (bU (dd) (dd)):=hfil.at 3 (by decide) rfl;have qz:=hfil.size;clear hfil;have ha:=aI rfl rfl hF [_,_,_,undef] rfl ⟨hS 0 _ rfl rfl,hS 1 _ rfl rfl,hS 2 _ rfl rfl,trivial,trivial⟩;simp only [puts,Act.put,dQ,dR,dS] at ha;subst ha;clear hS hF;replace hA:=other (by omega) (hA.kept hB);replace hC:=other (by omega) (hC.kept hB);replace hE:=other (by omega) (hE.kept hB);replace hZ:=other (by omega) (hZ.kept hB);replace jW:=other (by omega) (jW.kept hB);replace lN:=other (by omega) (lN.kept hB);replace zL:=other (by omega) (zL.kept hB);replace hbel:=dF (by omega) (hbel.trans (hB.mono hbel.size));obtain ⟨d2,hd2,Xd2,Hd2⟩:∃x,x=bU dd dd/\∃N,Hid (Fe x N):=⟨_,rfl,_,Hdd.out.bU Hdd.out⟩
      rw [<-hd2] at V3;have Kd2:=ak hd2;have Pm:=V3;replace hsz:w.heap.size+4<=w6.heap.size:=by have:=hZ.lt;omega
      clear hB other dF qz Pj V3 hd2;go_upto_region 6 with (fail)
      refine bB (n:=77) (by kernel_rfl) (by kernel_rfl) (by kernel_rfl) rfl
       (jh [(16,12),(17,13),(18,14),(19,15)]) (fJ [(16,12),(17,13),(18,14),(19,15)]) (fun _=> arr .i64 16 (fun _=> 0)) (fun i=> match i with | 12=> (arr .i64 16 (dU (bb) (aa))) | 13=> (arr .i64 16 (dU (d2) (cc))) | 14=> (arr .i64 16 (bU (d2) (cc))) | 15=> (arr .i64 16 (bU (bb) (aa))) | _=> #[]) (fun _=> 191) (fun i=> match i with | 12=> 11 | 13=> 12 | 14=> 13 | 15=> 14 | _=> 0)
       (fun ii vv _=> (match ii with | 0 | 9=> vv=.agg (arr .i64 16 (bb)) | 1 | 10=> vv=.agg (arr .i64 16 (aa)) | 2=> vv=.agg (arr .i64 16 (dU (bb) (aa))) | 3 | 6=> vv=.agg (arr .i64 16 (d2)) | 4 | 7=> vv=.agg (arr .i64 16 (cc)) | 5=> vv=.agg (arr .i64 16 (dU (d2) (cc))) | 8=> vv=.agg (arr .i64 16 (bU (d2) (cc))) | 11=> vv=.agg (arr .i64 16 (bU (bb) (aa))) | _=> True)) (fun _ _=> True) (fun _ _ _=> trivial) (fun _ _ _ _ _ _ _=> trivial) (fun _ _ _ _ h _=> h)
       (gF rfl) (eG rfl) ?_ ?_ ?_ ?_
      ·refine cO ?_;refine ⟨?_,?_,?_,?_,?_,?_,?_,?_,?_,?_,?_,?_,(fun h=> by cases h),(fun h=> by cases h),(fun h=> by cases h),(fun h=> by cases h),(fun _ h=> by cases h),(fun _ h=> by cases h),(fun _ h=> by cases h),(fun _ h=> by cases h),trivial⟩
       ·intro _ _ a w2 hB hF hd;exact aH <| aP (aB rfl bZ rfl bC (hF.same 8 rfl) (lN.below hB lN.lt)) rfl
       ·intro _ _ a w2 hB hF hd;exact aH <| aP (aB rfl bZ rfl bC (hF.same 7 rfl) (jW.below hB jW.lt)) rfl
       ·intro _ _ a w2 hB hF hd;refine aH <| aC _ _ _ rfl Tryz.call244 _ (args2 (hd 0 _ rfl rfl rfl (aj rfl)) (hd 1 _ rfl rfl rfl (aj rfl))) (by simp) ((iD _ _ _ _ YN.out QI.out w2).mono ?_);rintro e w3 ⟨rfl,hb⟩;exact ⟨_,rfl,rfl,hb⟩
       ·intro _ _ a w2 hB hF hd;exact aH <| aP (aB rfl bZ rfl bC (hF.same 10 rfl) (Pm.below hB Pm.lt)) rfl
       ·intro _ _ a w2 hB hF hd;exact aH <| aP (aB rfl bZ rfl bC (hF.same 9 rfl) (zL.below hB zL.lt)) rfl
       ·intro _ _ a w2 hB hF hd;refine aH <| aC _ _ _ rfl Tryz.call244 _ (args2 (hd 3 _ rfl rfl rfl (aj rfl)) (hd 4 _ rfl rfl rfl (aj rfl))) (by simp) ((iD _ _ _ _ Hd2.out Hcc.out w2).mono ?_);rintro e w3 ⟨rfl,hb⟩;exact ⟨_,rfl,rfl,hb⟩
       ·intro _ _ a w2 hB hF hd;exact aH <| aP (aB rfl bZ rfl bC (hF.same 10 rfl) (Pm.below hB Pm.lt)) rfl
       ·intro _ _ a w2 hB hF hd;exact aH <| aP (aB rfl bZ rfl bC (hF.same 9 rfl) (zL.below hB zL.lt)) rfl
       ·intro _ _ a w2 hB hF hd;refine aH <| aC _ _ _ rfl Tryz.call218 _ (args2 (hd 6 _ rfl rfl rfl (aj rfl)) (hd 7 _ rfl rfl rfl (aj rfl))) (by simp) ((gq _ _ _ _ Hd2.out Hcc.out w2).mono ?_);rintro e w3 ⟨rfl,hb⟩;exact ⟨_,rfl,rfl,hb⟩
       ·intro _ _ a w2 hB hF hd;exact aH <| aP (aB rfl bZ rfl bC (hF.same 8 rfl) (lN.below hB lN.lt)) rfl
       ·intro _ _ a w2 hB hF hd;exact aH <| aP (aB rfl bZ rfl bC (hF.same 7 rfl) (jW.below hB jW.lt)) rfl
       ·intro _ _ a w2 hB hF hd;refine aH <| aC _ _ _ rfl Tryz.call218 _ (args2 (hd 9 _ rfl rfl rfl (aj rfl)) (hd 10 _ rfl rfl rfl (aj rfl))) (by simp) ((gq _ _ _ _ YN.out QI.out w2).mono ?_);rintro e w3 ⟨rfl,hb⟩;exact ⟨_,rfl,rfl,hb⟩
      ·refine cO ?_;refine ⟨(fun h=> by cases h),(fun h=> by cases h),(fun h=> by cases h),(fun h=> by cases h),(fun h=> by cases h),(fun h=> by cases h),(fun h=> by cases h),(fun h=> by cases h),(fun h=> by cases h),(fun h=> by cases h),(fun h=> by cases h),(fun h=> by cases h),?_,?_,?_,?_,(fun h=> by cases h),(fun h=> by cases h),(fun h=> by cases h),(fun h=> by cases h),trivial⟩
       ·exact fun _=> ⟨rfl,rfl,fun a w2 K h=> aU rfl rfl Tryz.zeroValue191 (by simp) h⟩
       ·exact fun _=> ⟨rfl,rfl,fun a w2 K h=> aU rfl rfl Tryz.zeroValue191 (by simp) h⟩
       ·exact fun _=> ⟨rfl,rfl,fun a w2 K h=> aU rfl rfl Tryz.zeroValue191 (by simp) h⟩
       ·exact fun _=> ⟨rfl,rfl,fun a w2 K h=> aU rfl rfl Tryz.zeroValue191 (by simp) h⟩
      ·refine cO ?_;refine ⟨(fun _ h=> by cases h),(fun _ h=> by cases h),(fun _ h=> by cases h),(fun _ h=> by cases h),(fun _ h=> by cases h),(fun _ h=> by cases h),(fun _ h=> by cases h),(fun _ h=> by cases h),(fun _ h=> by cases h),(fun _ h=> by cases h),(fun _ h=> by cases h),(fun _ h=> by cases h),(fun _ h=> by cases h),(fun _ h=> by cases h),(fun _ h=> by cases h),(fun _ h=> by cases h),?_,?_,?_,?_,trivial⟩
       ·intro p hp;obtain rfl:12=p:=fO hp;exact ⟨rfl,rfl,⟨_,rfl⟩,aj rfl,fun a w2 b K hB hF hd hx hb h=> bD rfl rfl bC hx (hd 2 _ rfl rfl rfl (aj rfl)) hb h⟩
       ·intro p hp;obtain rfl:13=p:=fO hp;exact ⟨rfl,rfl,⟨_,rfl⟩,aj rfl,fun a w2 b K hB hF hd hx hb h=> bD rfl rfl bC hx (hd 5 _ rfl rfl rfl (aj rfl)) hb h⟩
       ·intro p hp;obtain rfl:14=p:=fO hp;exact ⟨rfl,rfl,⟨_,rfl⟩,aj rfl,fun a w2 b K hB hF hd hx hb h=> bD rfl rfl bC hx (hd 8 _ rfl rfl rfl (aj rfl)) hb h⟩
       ·intro p hp;obtain rfl:15=p:=fO hp;exact ⟨rfl,rfl,⟨_,rfl⟩,aj rfl,fun a w2 b K hB hF hd hx hb h=> bD rfl rfl bC hx (hd 11 _ rfl rfl rfl (aj rfl)) hb h⟩
      ·intro a w7 blk hB hF hS hv hfin dD;obtain ⟨v12,aaq,aiB⟩:=hv 12 _ rfl rfl;obtain ⟨v13,aap,aiA⟩:=hv 13 _ rfl rfl;obtain ⟨v14,aao,aiz⟩:=hv 14 _ rfl rfl;obtain ⟨v15,aan,aiy⟩:=hv 15 _ rfl rfl;have ha:=aI rfl rfl hF [_,_,_,_,_,_,_,_,_,_,_,_,_,_,_,_,undef,undef,undef,undef] rfl ⟨hS 0 _ rfl rfl rfl,hS 1 _ rfl rfl rfl,hS 2 _ rfl rfl rfl,hS 3 _ rfl rfl rfl,hS 4 _ rfl rfl rfl,hS 5 _ rfl rfl rfl,hS 6 _ rfl rfl rfl,hS 7 _ rfl rfl rfl,hS 8 _ rfl rfl rfl,hS 9 _ rfl rfl rfl,hS 10 _ rfl rfl rfl,hS 11 _ rfl rfl rfl,v12,v13,v14,v15,trivial,trivial,trivial,trivial,trivial⟩;have f12:=hfin 16 _ 12 rfl rfl;have f13:=hfin 17 _ 13 rfl rfl;have f14:=hfin 18 _ 14 rfl rfl;have f15:=hfin 19 _ 15 rfl rfl;have ajR:=dD 12 13 _ _ rfl rfl rfl rfl (by decide);have ajQ:=dD 12 14 _ _ rfl rfl rfl rfl (by decide);have ajP:=dD 12 15 _ _ rfl rfl rfl rfl (by decide);have ajO:=dD 13 14 _ _ rfl rfl rfl rfl (by decide);have ajN:=dD 13 15 _ _ rfl rfl rfl rfl (by decide);have ajM:=dD 14 15 _ _ rfl rfl rfl rfl (by decide);simp only [puts,Act.put,dQ,dR,dS] at ha;subst ha;have V12:aF .i64 w7 (blk 12) 16 (dU (bb) (aa)):=⟨_,f12⟩
       have ZM:aF .i64 w7 (blk 13) 16 (dU (d2) (cc)):=⟨_,f13⟩
       have V14:aF .i64 w7 (blk 14) 16 (bU (d2) (cc)):=⟨_,f14⟩
       have V15:aF .i64 w7 (blk 15) 16 (bU (bb) (aa)):=⟨_,f15⟩
       clear hS hv hfin dD hF v12 v13 v14 v15 f12 f13 f14 f15;replace hA:=hA.kept hB;replace hC:=hC.kept hB;replace hE:=hE.kept hB;replace hZ:=hZ.kept hB;replace jW:=jW.kept hB;replace lN:=lN.kept hB;replace zL:=zL.kept hB;replace Pm:=Pm.kept hB;obtain ⟨bee,Lf⟩:∃x,x=blk 12:=⟨_,rfl⟩
       obtain ⟨ee,hee,Xee,YM⟩:∃x,x=dU bb aa/\∃N,Hid (Fe x N):=⟨_,rfl,_,YN.out.dU QI.out⟩
       rw [<-hee,←Lf] at V12;rw [<-Lf] at aaq ⊢;have lee:w.heap.size+4<=bee:=gQ hsz aaq;have Kee:=ak hee;obtain ⟨bff,acg⟩:∃x,x=blk 13:=⟨_,rfl⟩
       obtain ⟨ff,hff,Xff,Hff⟩:∃x,x=dU d2 cc/\∃N,Hid (Fe x N):=⟨_,rfl,_,Hd2.out.dU Hcc.out⟩
       rw [<-hff,←acg] at ZM;rw [<-acg] at aap ⊢;have lff:w.heap.size+4<=bff:=gQ hsz aap;have Kff:=ak hff;obtain ⟨bgg,acf⟩:∃x,x=blk 14:=⟨_,rfl⟩
       obtain ⟨gg,hgg,Xgg,Hgg⟩:∃x,x=bU d2 cc/\∃N,Hid (Fe x N):=⟨_,rfl,_,Hd2.out.bU Hcc.out⟩
       rw [<-hgg,←acf] at V14;rw [<-acf] at aao ⊢;have lgg:w.heap.size+4<=bgg:=gQ hsz aao;have Kgg:=ak hgg;obtain ⟨bhh,ace⟩:∃x,x=blk 15:=⟨_,rfl⟩
       obtain ⟨hh,hhh,Xhh,Hhh⟩:∃x,x=bU bb aa/\∃N,Hid (Fe x N):=⟨_,rfl,_,YN.out.bU QI.out⟩
       rw [<-hhh,←ace] at V15;rw [<-ace] at aan ⊢;have lhh:w.heap.size+4<=bhh:=gQ hsz aan;have Khh:=ak hhh;replace hbel:=hbel.trans (hB.mono hbel.size);replace hsz:=gQ hsz hB.size;clear hB hee Lf hff acg hgg acf hhh ace;have vR:=V12;clear V12 aaq aiB;have Yd:=ZM;clear ZM aap aiA;have Yc:=V14;clear V14 aao aiz;have Yb:=V15;clear V15 aan aiy;go_upto_region 7 with (fail)
       refine dw (n:=77) (fun i=> i==13) (by kernel_rfl) (by kernel_rfl) (by kernel_rfl) (by kernel_rfl) rfl
        (fun ii vv _=> (match ii with | 0 | 9=> vv=.agg (arr .i64 16 (ee)) | 1 | 6=> vv=.agg (arr .i64 16 (ff)) | 2=> vv=.agg (arr .i64 16 (aM (ee) (ff))) | 3 | 7=> vv=.agg (arr .i64 16 (gg)) | 4 | 10=> vv=.agg (arr .i64 16 (hh)) | 5=> vv=.agg (arr .i64 16 (aM (gg) (hh))) | 8=> vv=.agg (arr .i64 16 (aM (ff) (gg))) | 11=> vv=.agg (arr .i64 16 (aM (ee) (hh))) | 12=> vv=.agg (arr .i64 64 (pt (aM (ee) (ff)) (aM (gg) (hh)) (aM (ff) (gg)) (aM (ee) (hh)))) | _=> True))
        (fun w w'=> Below w.heap.size w w') (fun _ _ h=> h) (fun _ _ _ _ h _=> h)
        (fun _=> (w.heap.size+3)) (fun _=> (arr .i64 64 (fun _=> 0))) (fun _=> (arr .i64 64 (pt (aM (ee) (ff)) (aM (gg) (hh)) (aM (ff) (gg)) (aM (ee) (hh)))))
        (by intro i j _ _ hpi iI hne;simp only [beq_iff_eq] at hpi iI;omega)
        (by intro i _ hpi;exact (hZ).row)
        ?_ ?_ ?_
       ·refine cO ?_;refine ⟨?_,?_,?_,?_,?_,?_,?_,?_,?_,?_,?_,?_,?_,(aJ),trivial⟩
        ·intro _ a w2 hB hF hd;exact aH <| aP (aB rfl bZ rfl bC (hF.same 11 rfl) (vR.below hB vR.lt)) rfl
        ·intro _ a w2 hB hF hd;exact aH <| aP (aB rfl bZ rfl bC (hF.same 12 rfl) (Yd.below hB Yd.lt)) rfl
        ·intro _ a w2 hB hF hd;refine aH <| aC _ _ _ rfl Tryz.call203 _ (args2 (hd 0 _ rfl rfl (aj rfl)) (hd 1 _ rfl rfl (aj rfl))) (by simp) ((bI _ _ _ _ YM.out Hff.out w2).mono ?_);rintro e w3 ⟨rfl,hb⟩;exact ⟨_,rfl,rfl,hb⟩
        ·intro _ a w2 hB hF hd;exact aH <| aP (aB rfl bZ rfl bC (hF.same 13 rfl) (Yc.below hB Yc.lt)) rfl
        ·intro _ a w2 hB hF hd;exact aH <| aP (aB rfl bZ rfl bC (hF.same 14 rfl) (Yb.below hB Yb.lt)) rfl
        ·intro _ a w2 hB hF hd;refine aH <| aC _ _ _ rfl Tryz.call203 _ (args2 (hd 3 _ rfl rfl (aj rfl)) (hd 4 _ rfl rfl (aj rfl))) (by simp) ((bI _ _ _ _ Hgg.out Hhh.out w2).mono ?_);rintro e w3 ⟨rfl,hb⟩;exact ⟨_,rfl,rfl,hb⟩
        ·intro _ a w2 hB hF hd;exact aH <| aP (aB rfl bZ rfl bC (hF.same 12 rfl) (Yd.below hB Yd.lt)) rfl
        ·intro _ a w2 hB hF hd;exact aH <| aP (aB rfl bZ rfl bC (hF.same 13 rfl) (Yc.below hB Yc.lt)) rfl
        ·intro _ a w2 hB hF hd;refine aH <| aC _ _ _ rfl Tryz.call203 _ (args2 (hd 6 _ rfl rfl (aj rfl)) (hd 7 _ rfl rfl (aj rfl))) (by simp) ((bI _ _ _ _ Hff.out Hgg.out w2).mono ?_);rintro e w3 ⟨rfl,hb⟩;exact ⟨_,rfl,rfl,hb⟩
        ·intro _ a w2 hB hF hd;exact aH <| aP (aB rfl bZ rfl bC (hF.same 11 rfl) (vR.below hB vR.lt)) rfl
        ·intro _ a w2 hB hF hd;exact aH <| aP (aB rfl bZ rfl bC (hF.same 14 rfl) (Yb.below hB Yb.lt)) rfl
        ·intro _ a w2 hB hF hd;refine aH <| aC _ _ _ rfl Tryz.call203 _ (args2 (hd 9 _ rfl rfl (aj rfl)) (hd 10 _ rfl rfl (aj rfl))) (by simp) ((bI _ _ _ _ YM.out Hhh.out w2).mono ?_);rintro e w3 ⟨rfl,hb⟩;exact ⟨_,rfl,rfl,hb⟩
        ·intro _ a w2 hB hF hd;exact aH <| aP (eD rfl (by simp only [vg,List.map_cons,List.map_nil,show a.eval (Operand.tmp 66)=.agg (arr .i64 16 (aM (ee) (ff))) from (hd 2 _ rfl rfl (aj rfl)),show a.eval (Operand.tmp 69)=.agg (arr .i64 16 (aM (gg) (hh))) from (hd 5 _ rfl rfl (aj rfl)),show a.eval (Operand.tmp 72)=.agg (arr .i64 16 (aM (ff) (gg))) from (hd 8 _ rfl rfl (aj rfl)),show a.eval (Operand.tmp 75)=.agg (arr .i64 16 (aM (ee) (hh))) from (hd 11 _ rfl rfl (aj rfl))];exact Jj _ _ _ _ _)) rfl
       ·refine cO ?_;refine ⟨(aJ),(aJ),(aJ),(aJ),(aJ),(aJ),(aJ),(aJ),(aJ),(aJ),(aJ),(aJ),(aJ),?_,trivial⟩
        ·intro _ a w1 w2 K hB hF hS hr hK;exact aX 193 _ _ rfl .i64 ((w.heap.size+3)) 64 (fun _=> 0) (pt (aM (ee) (ff)) (aM (gg) (hh)) (aM (ff) (gg)) (aM (ee) (hh))) Tryz.size193 (hF.same 6 rfl) (hS 12 _ rfl rfl) hr hK
       ·intro a wf w8 hB hF hS hfil;have other:∀{k:IntKind} {qb n:Nat} {f:Nat->Int},qb≠(w.heap.size+3)->aF k wf qb n f->aF k w8 qb n f:=fun {k qb n f} e0 hA=> hfil.arr (by intro i _ hpi;simp only [jG,beq_iff_eq] at hpi;subst hpi<;> ((try simp only []);(try dsimp only);omega)) hA;have dF:∀{B:Nat} {w0:World},B<=(w.heap.size+3)->Below B w0 wf->Below B w0 w8:=fun {B w0} e0 hA=> hfil.below (by intro i _ hpi;simp only [jG,beq_iff_eq] at hpi;subst hpi<;> ((try simp only []);(try dsimp only);omega)) hA;have ZM:aF .i64 w8 ((w.heap.size+3)) 64 (pt (aM (ee) (ff)) (aM (gg) (hh)) (aM (ff) (gg)) (aM (ee) (hh))):=hfil.at 13 (by decide) rfl;have qz:=hfil.size;clear hfil;have ha:=aI rfl rfl hF [_,_,_,_,_,_,_,_,_,_,_,_,_,undef] rfl ⟨hS 0 _ rfl rfl,hS 1 _ rfl rfl,hS 2 _ rfl rfl,hS 3 _ rfl rfl,hS 4 _ rfl rfl,hS 5 _ rfl rfl,hS 6 _ rfl rfl,hS 7 _ rfl rfl,hS 8 _ rfl rfl,hS 9 _ rfl rfl,hS 10 _ rfl rfl,hS 11 _ rfl rfl,hS 12 _ rfl rfl,trivial,trivial⟩;simp only [puts,Act.put,dQ,dR,dS] at ha;subst ha;clear hS hF;have hb:=dF (by omega) (hbel.trans (hB.mono hbel.size));go_wp2;have hfin:pt (aM ee ff) (aM gg hh) (aM ff gg) (aM ee hh)=pt (sumX f g h e u v r s d) (aaB f g h e u v r s d) (sumZ f g h e u v r s d) (aaC f g h e u v r s d):=by
         rw [Kee.out,Kff.out,Kgg.out,Khh.out,Kd2.out,Kdd.out,Kcc.out,Kbb.out,Kaa.out];rfl
        rw [hfin] at ZM;exact bodyPost_ret (dn rfl _ _ .i64 (w.heap.size+3) 64 _ rfl ZM EZ rfl Tryz.size193) rfl ⟨rfl,hb⟩
def ddF:Nat->Int:=bU jq jq
theorem ZF:Fe ddF (dN+dN):=jS.bU jS
theorem aay:toF (dN+dN)=dE+dE:=by rw [eY,Rm]
theorem Bq (p:Bool) (f g h e u v r s:Nat->Int) (X Y Z T U V W S:Int) (hp:wH f g h e X Y Z T) (hq:wH u v r s U V W S) (w:World):
  Calls Tryz.prog 220 #[Pt f g h e,Pt u v r s,.bool p] w fun e_ w'=> e_=.returned (.tuple #[Pt (aS p f u) (aS p g v) (aS p h r) (aS p e s),Pt (aS p u f) (aS p v g) (aS p r h) (aS p s e)])/\Below w.heap.size w w':=by
 have HP:=ak hp;have HQ:=ak hq;clear hp hq;unfold Pt
 go_enter Tryz.func220,Tryz.ntmps220
 go_upto_region 1 with (fail)
 refine aD (fun w1=> aF .i64 w1 w.heap.size 64 (pt f g h e)/\aF .i64 w1 (w.heap.size+1) 64 (pt u v r s)/\aF .i64 w1 (w.heap.size+2) 64 (fun _=> 0)/\aF .i64 w1 (w.heap.size+3) 64 (fun _=> 0)/\Below w.heap.size w w1)
  ⟨.alloc (.alloc (.alloc (bM rfl rfl) _) _) _,.alloc (.alloc (bM (by first | omega | (simp<;> omega)) rfl) _) _,.alloc (bM (by first | omega | (simp<;> omega)) (by rfl)) _,bM (by first | omega | (simp<;> omega)) (by rfl),((((bN _ _).alloc (bA _) _).alloc (by first | omega | (simp<;> omega)) _).alloc (by first | omega | (simp<;> omega)) _).alloc (by first | omega | (simp<;> omega)) _⟩ ?_
 rintro w1 ⟨hA,hC,hZ,hY,hbel⟩
 try simp only [Act.put,dQ,dR,dS]
 go_wp2_with (first | (refine eB rfl (aW (m:=15) (k:=0) rfl rfl (by kernel_rfl)) ?_) | (refine eB rfl (bH rfl rfl bZ rfl bC (fun i hi=> Gv hA i hi)) ?_) | (refine eB rfl (bH rfl rfl bZ rfl bC (fun i hi=> Gv hC i hi)) ?_));refine (iU p f u _ _ HP.out.1 HQ.out.1 _).mono ?_;rintro e_ v0 ⟨rfl,hb⟩;replace hA:=hA.kept hb;replace hC:=hC.kept hb;replace hZ:=hZ.kept hb;replace hY:=hY.kept hb;replace hbel:=hbel.trans (hb.mono hbel.size);have s2:=hC.dI (b':=w.heap.size) (by omega) (vals .i64 16 (aS p f u)) 0;have t1:=fH (P:=Tryz.prog) hA (off:=0) (m:=16) (by decide) (aS p f u);have t2:=fH (P:=Tryz.prog) s2 (off:=0) (m:=16) (by decide) (aS p u f);go_upto_region 2 with (fail);clear t1 t2
 refine aD (fun w1=> aF .i64 w1 w.heap.size 64 (pt (aS p f u) g h e)/\aF .i64 w1 (w.heap.size+1) 64 (pt (aS p u f) v r s)/\aF .i64 w1 (w.heap.size+2) 64 (fun _=> 0)/\aF .i64 w1 (w.heap.size+3) 64 (fun _=> 0)/\Below w.heap.size w w1)
  ⟨((hA.mid 16 0 (aS p f u)).congr (Ih _ _ _ _ _)).dI (b':=w.heap.size+1) (by omega) _ _,(s2.mid 16 0 (aS p u f)).congr (Ih _ _ _ _ _),(hZ.dI (b':=w.heap.size) (by omega) (vals .i64 16 (aS p f u)) 0).dI (b':=w.heap.size+1) (by omega) (vals .i64 16 (aS p u f)) 0,(hY.dI (b':=w.heap.size) (by omega) (vals .i64 16 (aS p f u)) 0).dI (b':=w.heap.size+1) (by omega) (vals .i64 16 (aS p u f)) 0,jk (by omega) _ _ _ (jk (bA _) _ _ _ hbel)⟩ ?_
 clear s2 hA hC hZ hY hbel hb;rintro w2 ⟨hA,hC,hZ,hY,hbel⟩
 try simp only [Act.put,dQ,dR,dS]
 go_wp2_with (first | (refine eB rfl (aW (m:=15) (k:=16) rfl rfl (by kernel_rfl)) ?_) | (refine eB rfl (bH rfl rfl bZ rfl bC (fun i hi=> Kv hA i hi)) ?_) | (refine eB rfl (bH rfl rfl bZ rfl bC (fun i hi=> Kv hC i hi)) ?_));refine (iU p g v _ _ HP.out.2.1 HQ.out.2.1 _).mono ?_;rintro e_ v1 ⟨rfl,hb⟩;replace hA:=hA.kept hb;replace hC:=hC.kept hb;replace hZ:=hZ.kept hb;replace hY:=hY.kept hb;replace hbel:=hbel.trans (hb.mono hbel.size);have s2:=hC.dI (b':=w.heap.size) (by omega) (vals .i64 16 (aS p g v)) 16;have t1:=fH (P:=Tryz.prog) hA (off:=16) (m:=16) (by decide) (aS p g v);have t2:=fH (P:=Tryz.prog) s2 (off:=16) (m:=16) (by decide) (aS p v g);go_upto_region 3 with (fail);clear t1 t2
 refine aD (fun w1=> aF .i64 w1 w.heap.size 64 (pt (aS p f u) (aS p g v) h e)/\aF .i64 w1 (w.heap.size+1) 64 (pt (aS p u f) (aS p v g) r s)/\aF .i64 w1 (w.heap.size+2) 64 (fun _=> 0)/\aF .i64 w1 (w.heap.size+3) 64 (fun _=> 0)/\Below w.heap.size w w1)
  ⟨((hA.mid 16 16 (aS p g v)).congr (Ig _ _ _ _ _)).dI (b':=w.heap.size+1) (by omega) _ _,(s2.mid 16 16 (aS p v g)).congr (Ig _ _ _ _ _),(hZ.dI (b':=w.heap.size) (by omega) (vals .i64 16 (aS p g v)) 16).dI (b':=w.heap.size+1) (by omega) (vals .i64 16 (aS p v g)) 16,(hY.dI (b':=w.heap.size) (by omega) (vals .i64 16 (aS p g v)) 16).dI (b':=w.heap.size+1) (by omega) (vals .i64 16 (aS p v g)) 16,jk (by omega) _ _ _ (jk (bA _) _ _ _ hbel)⟩ ?_
 clear s2 hA hC hZ hY hbel hb;rintro w3 ⟨hA,hC,hZ,hY,hbel⟩
 try simp only [Act.put,dQ,dR,dS]
 go_wp2_with (first | (refine eB rfl (aW (m:=15) (k:=32) rfl rfl (by kernel_rfl)) ?_) | (refine eB rfl (bH rfl rfl bZ rfl bC (fun i hi=> Oy hA i hi)) ?_) | (refine eB rfl (bH rfl rfl bZ rfl bC (fun i hi=> Oy hC i hi)) ?_));refine (iU p h r _ _ HP.out.2.2.1 HQ.out.2.2.1 _).mono ?_;rintro e_ v2 ⟨rfl,hb⟩;replace hA:=hA.kept hb;replace hC:=hC.kept hb;replace hZ:=hZ.kept hb;replace hY:=hY.kept hb;replace hbel:=hbel.trans (hb.mono hbel.size);have s2:=hC.dI (b':=w.heap.size) (by omega) (vals .i64 16 (aS p h r)) 32;have t1:=fH (P:=Tryz.prog) hA (off:=32) (m:=16) (by decide) (aS p h r);have t2:=fH (P:=Tryz.prog) s2 (off:=32) (m:=16) (by decide) (aS p r h);go_upto_region 4 with (fail);clear t1 t2
 refine aD (fun w1=> aF .i64 w1 w.heap.size 64 (pt (aS p f u) (aS p g v) (aS p h r) e)/\aF .i64 w1 (w.heap.size+1) 64 (pt (aS p u f) (aS p v g) (aS p r h) s)/\aF .i64 w1 (w.heap.size+2) 64 (fun _=> 0)/\aF .i64 w1 (w.heap.size+3) 64 (fun _=> 0)/\Below w.heap.size w w1)
  ⟨((hA.mid 16 32 (aS p h r)).congr (Ie _ _ _ _ _)).dI (b':=w.heap.size+1) (by omega) _ _,(s2.mid 16 32 (aS p r h)).congr (Ie _ _ _ _ _),(hZ.dI (b':=w.heap.size) (by omega) (vals .i64 16 (aS p h r)) 32).dI (b':=w.heap.size+1) (by omega) (vals .i64 16 (aS p r h)) 32,(hY.dI (b':=w.heap.size) (by omega) (vals .i64 16 (aS p h r)) 32).dI (b':=w.heap.size+1) (by omega) (vals .i64 16 (aS p r h)) 32,jk (by omega) _ _ _ (jk (bA _) _ _ _ hbel)⟩ ?_
 clear s2 hA hC hZ hY hbel hb;rintro w4 ⟨hA,hC,hZ,hY,hbel⟩
 try simp only [Act.put,dQ,dR,dS]
 go_wp2_with (first | (refine eB rfl (aW (m:=15) (k:=48) rfl rfl (by kernel_rfl)) ?_) | (refine eB rfl (bH rfl rfl bZ rfl bC (fun i hi=> Xm hA i hi)) ?_) | (refine eB rfl (bH rfl rfl bZ rfl bC (fun i hi=> Xm hC i hi)) ?_));refine (iU p e s _ _ HP.out.2.2.2 HQ.out.2.2.2 _).mono ?_;rintro e_ v3 ⟨rfl,hb⟩;replace hA:=hA.kept hb;replace hC:=hC.kept hb;replace hZ:=hZ.kept hb;replace hY:=hY.kept hb;replace hbel:=hbel.trans (hb.mono hbel.size);have s2:=hC.dI (b':=w.heap.size) (by omega) (vals .i64 16 (aS p e s)) 48;have t1:=fH (P:=Tryz.prog) hA (off:=48) (m:=16) (by decide) (aS p e s);have t2:=fH (P:=Tryz.prog) s2 (off:=48) (m:=16) (by decide) (aS p s e);go_upto_region 5 with (fail);clear t1 t2
 refine aD (fun w1=> aF .i64 w1 w.heap.size 64 (pt (aS p f u) (aS p g v) (aS p h r) (aS p e s))/\aF .i64 w1 (w.heap.size+1) 64 (pt (aS p u f) (aS p v g) (aS p r h) (aS p s e))/\aF .i64 w1 (w.heap.size+2) 64 (fun _=> 0)/\aF .i64 w1 (w.heap.size+3) 64 (fun _=> 0)/\Below w.heap.size w w1)
  ⟨((hA.mid 16 48 (aS p e s)).congr (Ic _ _ _ _ _)).dI (b':=w.heap.size+1) (by omega) _ _,(s2.mid 16 48 (aS p s e)).congr (Ic _ _ _ _ _),(hZ.dI (b':=w.heap.size) (by omega) (vals .i64 16 (aS p e s)) 48).dI (b':=w.heap.size+1) (by omega) (vals .i64 16 (aS p s e)) 48,(hY.dI (b':=w.heap.size) (by omega) (vals .i64 16 (aS p e s)) 48).dI (b':=w.heap.size+1) (by omega) (vals .i64 16 (aS p s e)) 48,jk (by omega) _ _ _ (jk (bA _) _ _ _ hbel)⟩ ?_
 clear s2 hA hC hZ hY hbel hb;rintro w5 ⟨hA,hC,hZ,hY,hbel⟩
 try simp only [Act.put,dQ,dR,dS]
 obtain ⟨fa,hfa⟩:∃x,x=pt (aS p f u) (aS p g v) (aS p h r) (aS p e s):=⟨_,rfl⟩
 obtain ⟨fb,Ip⟩:∃x,x=pt (aS p u f) (aS p v g) (aS p r h) (aS p s e):=⟨_,rfl⟩
 rw [<-hfa] at hA;rw [<-Ip] at hC
 refine nH (n:=54) 3 rfl (by decide) (by kernel_rfl) (by kernel_rfl) (by kernel_rfl) (by kernel_rfl) rfl
  (fun ii vv ww=> (match ii with | 0=> vv=.agg (arr .i64 64 fa) | 1=> vv=.agg (arr .i64 64 fb) | _=> True)/\(ii=2->aF .i64 ww (w.heap.size+2) 64 fa)) 2
  (fun b ww=> (aF .i64 ww w.heap.size 64 fa/\aF .i64 ww (w.heap.size+1) 64 fb/\aF .i64 ww (w.heap.size+3) 64 (fun _=> 0)/\Below w.heap.size w ww)/\(b=false->aF .i64 ww (w.heap.size+2) 64 (fun _=> 0))) ⟨⟨hA.drew,hC.drew,hY.drew,hbel.drew⟩,fun _=> hZ.drew⟩
  (fun i ww w'=> match i with | 2=> ((aF .i64 ww w.heap.size 64 fa/\aF .i64 ww (w.heap.size+1) 64 fb/\aF .i64 ww (w.heap.size+3) 64 (fun _=> 0)/\Below w.heap.size w ww)->(aF .i64 w' w.heap.size 64 fa/\aF .i64 w' (w.heap.size+1) 64 fb/\aF .i64 w' (w.heap.size+3) 64 (fun _=> 0)/\Below w.heap.size w w')) | _=> w'=ww) ?_ ?_ ?_ ?_ rfl ?_ ?_
 ·intro i ww;(try dsimp only);split
  ·exact id
  ·rfl
 ·intro i b ww w' hi hR hE;have hE':w'=ww:=by (try dsimp only at hE);split at hE;(· exact absurd rfl hi);exact hE
  rw [hE'];exact hR
 ·intro ww w' hR hE;exact ⟨hE hR.1,fun h=> by cases h⟩
 ·intro i j b v ww w' hij hjb hR hS hE;refine ⟨hS.1,fun e=> ?_⟩;subst e;have hE':w'=ww:=by (try dsimp only at hE);split at hE;(· exact absurd rfl hij);exact hE
  rw [hE'];exact hS.2 rfl
 ·refine cO ?_;refine ⟨?_,?_,?_,(fun h=> absurd rfl h),trivial⟩
  ·intro _ b a w2 hcb hB hF hd;exact aH <| Cz (fun h=> by cases h) (aB rfl EZ rfl Tryz.size193 (hF.same 3 rfl) hB.1.1) ⟨rfl,aJ⟩ rfl
  ·intro _ b a w2 hcb hB hF hd;exact aH <| Cz (fun h=> by cases h) (aB rfl EZ rfl Tryz.size193 (hF.same 4 rfl) hB.1.2.1) ⟨rfl,aJ⟩ rfl
  ·intro _ b a w2 hcb hB hF hd;refine aH <| aX 193 _ _ rfl .i64 (w.heap.size+2) 64 (fun _=> 0) fa Tryz.size193 (hF.same 6 rfl) (hd 0 _ rfl (aj rfl)).1 (hB.2 (hcb rfl)) ?_;exact ⟨_,rfl,fun _=> rfl,⟨trivial,fun _=> (hB.2 (hcb rfl)).setRow _ _⟩,fun h=> ⟨h.1.aA _ (by omega) _,h.2.1.aA _ (by omega) _,h.2.2.1.aA _ (by omega) _,ay h.2.2.2 (by omega) _⟩⟩
 ·intro b a w3 hB hF hS;have hV:=(hS 2 _ rfl (by decide)).2 rfl;obtain ⟨⟨_,_,hY3,hb3⟩,_⟩:=hB;have ha:=aI rfl rfl hF [_,_,undef,undef] rfl ⟨(hS 0 _ rfl (by decide)).1,(hS 1 _ rfl (by decide)).1,trivial,trivial,trivial⟩;simp only [puts,Act.put,dQ,dR,dS] at ha;subst ha;clear hS hF hA hC hZ hY hbel;refine aX 193 _ _ rfl .i64 (w.heap.size+3) 64 (fun _=> 0) _ Tryz.size193 rfl rfl hY3 ?_;have r1:=hV.aA (w.heap.size+3) (by omega) (arr .i64 64 fb);have r2:=hY3.setRow 64 fb;have r3:=ay hb3 (by omega:w.heap.size<=w.heap.size+3) (arr .i64 64 fb);go_wp2;exact bodyPost_ret (oO rfl _ _ .i64 (w.heap.size+2) 64 _ .i64 (w.heap.size+3) 64 _ rfl r1 EZ rfl Tryz.size193 rfl r2 EZ rfl Tryz.size193) rfl ⟨by rw [hfa,Ip],r3⟩
end Go.Proofs.YtpcjekgfnfjbpaaGreat
