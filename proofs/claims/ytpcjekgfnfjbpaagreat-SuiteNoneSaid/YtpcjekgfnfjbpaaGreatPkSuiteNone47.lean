/-
  Part 47 of SuiteNone. Conditions: named in each theorem.
-/
import Derived.Test.YtpcjekgfnfjbpaaGreatPkSuiteNone41
import Derived.Test.YtpcjekgfnfjbpaaGreatPkSuiteNone24
import Derived.Test.YtpcjekgfnfjbpaaGreatPkSuiteNone46
set_option linter.unusedVariables false
set_option linter.unusedSimpArgs false
set_option maxRecDepth 100000
set_option maxHeartbeats 6400000
namespace Go.bI
open Go.RowKit
def xO (w:World) (b:Nat) (cs:Array Value):Prop:=∃T,w.heap[b]? =some (.cells cs T (0,0))
theorem xO.lt {w:World} {b:Nat} {cs:Array Value} (h:xO w b cs):b<w.heap.size:=by obtain ⟨T,h⟩:=h;exact (Array.getElem?_eq_some_iff.1 h).1
theorem xO.newAt {w:World} {T:TypeId} {b:Nat} {cs:Array Value} (hb:b=w.heap.size):xO (w.alloc (.cells cs T)) b cs:=by subst hb;exact ⟨T,heap_alloc_new w _⟩
theorem xO.kept {w w':World} {b:Nat} {cs:Array Value} (h:xO w b cs) (hb:Below w.heap.size w w'):xO w' b cs:=by
 have hlt:=h.lt;obtain ⟨T,h⟩:=h;exact ⟨T,by rw [hb.block b hlt];exact h⟩
theorem xO.cell {w:World} {b:Nat} {cs:Array Value} (h:xO w b cs) (i:Nat) {v:Value} (hv:cs[i]? =some v):w.cell? ⟨b,i,none⟩=some v:=by
 obtain ⟨T,h⟩:=h;rw [cell_of_row w b i _ T (0,0) h,hv]
section
variable {P : Program} {ops : Array Oper} {rest : List Oper} {o : Oper} {a : Act} {w : World} {Q : Exit -> Act -> World -> Prop}
end
theorem Rd.isSlice {k:IntKind} {w:World} {v:Value} {n:Nat} {f:Nat->Int} (h:Rd k w v n f):∃a n c,v=.slice a n c:=by
 obtain ⟨a,c,h,_⟩:=h;exact ⟨a,n,c,h⟩
end Go.bI
namespace Go.bI
def raL (X Y Z U V R D:Int):Int:=(Z * R) * (Z * R) - D * ((X * U) * (Y * V))
def raM (X Y Z U V R D:Int):Int:=(Z * R) * (Z * R)+D * ((X * U) * (Y * V))
def raC (X Y U V:Int):Int:=(X+Y) * (U+V) - X * U - Y * V
def raX (X Y Z U V R D:Int):Int:=(Z * R) * (raL X Y Z U V R D * raC X Y U V)
def raY (X Y Z U V R D:Int):Int:=(Z * R) * (raM X Y Z U V R D * (Y * V+X * U))
def raZ (X Y Z U V R D:Int):Int:=raL X Y Z U V R D * raM X Y Z U V R D
end Go.bI
namespace Go.bI
open Go.RowKit
theorem JQ (f g h e x:Nat->Int) (i:Nat) (_:i<64):laid (pt f g h e) 0 16 x i=pt x g h e i:=by
 unfold laid pt
 repeat' split
 all_goals first | rfl | (exfalso;omega) | (congr 1;omega)
theorem JO (f g h e x:Nat->Int) (i:Nat) (_:i<64):laid (pt f g h e) 16 16 x i=pt f x h e i:=by
 unfold laid pt
 repeat' split
 all_goals first | rfl | (exfalso;omega) | (congr 1;omega)
theorem JN (f g h e x:Nat->Int) (i:Nat) (_:i<64):laid (pt f g h e) 32 16 x i=pt f g x e i:=by
 unfold laid pt
 repeat' split
 all_goals first | rfl | (exfalso;omega) | (congr 1;omega)
theorem JM (f g h e x:Nat->Int) (i:Nat) (_:i<64):laid (pt f g h e) 48 16 x i=pt f g h x i:=by
 unfold laid pt
 repeat' split
 all_goals first | rfl | (exfalso;omega) | (congr 1;omega)
theorem Et {P:Program} {o:Oper} {a:Act} {w:World} {v:Value} {S:Value->World->Prop} {E:World->Prop} {Q:Exit->Act->World->Prop} (hd:∀h:o.dst=none,v=undef) (hr:(execOp a.eval o).run P w=.ok (.value v) w) (hs:S v w) (hE:E w):
  o.wp P a w (fun a' w'=> ∃v,a'=a.put o.dst v/\(o.dst=none->v=undef)/\S v w'/\E w') Q:=by
 unfold Oper.wp;rw [hr];exact ⟨v,rfl,fun h=> hd h,hs,hE⟩
theorem fM {P:Program} {w:World} {k:IntKind} {b off n m:Nat} {f:Nat->Int} (h:aH k w b n f) (hm:off+m<=n) (g:Nat->Int):(storeCells ⟨b,off,none⟩ (arr k m g).toList).run P w=.ok () (w.setCells b off (vals k m g)):=by
 have hv:(arr k m g).toList=vals k m g:=rfl;rw [hv];have h1:=run_storeCells_cells (P:=P) b off (vals k m g) 0 w (fun j hj=> by rw [dn] at hj;rw [Nat.add_zero,h.cell (off+j) (by omega)];rfl) (fun j hj=> h.free _) (fun v hv=> by obtain ⟨_,_,rfl⟩:=List.mem_map.1 hv;rfl)
 simpa using h1
end Go.bI
namespace Go.Proofs.YtpcjekgfnfjbpaaGreat
open Go.RowKit Go.bI Go.ChangeShapes
attribute [local go_sem ↓] Go.wp_at_zero Go.wp_at_succ
abbrev Pt (f g h e:Nat->Int):Value:=.agg (arr .i64 64 (pt f g h e))
theorem Tryz.size193:(Tryz.prog.info? 193).map (·.size)=some 64:=by kernel_rfl
theorem Bo (f g h e:Nat->Int) (w:World):(Instr.build 193 #[(0,.agg (arr .i64 16 f)),(1,.agg (arr .i64 16 g)),(2,.agg (arr .i64 16 h)),(3,.agg (arr .i64 16 e))]).run Tryz.prog w=.ok (Pt f g h e) w:=
 Go.run_build w _ _ (arr .i64 64 (pt f g h e)) (by kernel_rfl)
def iG:Nat->Int:=iy (aL (bW (aN 60832) (aN 60833)) (jD (bW (aN 60833) (aN 60833))))
def dN:Int:= -((60832+60833) * vT (60833+60833))
theorem mH (n:Int) (h:qM n=n):Fe (aN n) n:=by have:=mG n;rwa [h] at this
theorem nU:Fe (aN 60833) 60833:=mH _ (by decide)
theorem OP:Fe (aN 60832) 60832:=mH _ (by decide)
theorem Km:Fe (aN 0) 0:=mH _ (by decide)
theorem qy:Fe (aN 1) 1:=mH _ (by decide)
theorem jr:Fe iG dN:=((OP.bW nU).aL (jR (nU.bW nU))).iy
theorem LJ:toF dN=dE:=by
 unfold dN vT dE;rw [show (60832+60833:Int)=121665 by decide,show (60833+60833:Int)=121666 by decide,jO,bZ,rR]
def sA (f g u v:Nat->Int):Nat->Int:=aL (eG g f) (eG v u)
def sB (f g u v:Nat->Int):Nat->Int:=aL (bW g f) (bW v u)
def sC (e s d:Nat->Int):Nat->Int:=aL (aL e s) d
def sD (h r:Nat->Int):Nat->Int:=bW (aL h r) (aL h r)
def sumX (f g h e u v r s d:Nat->Int):Nat->Int:=aL (eG (sB f g u v) (sA f g u v)) (eG (sD h r) (sC e s d))
def Il (f g h e u v r s d:Nat->Int):Nat->Int:=aL (bW (sD h r) (sC e s d)) (bW (sB f g u v) (sA f g u v))
def sumZ (f g h e u v r s d:Nat->Int):Nat->Int:=aL (eG (sD h r) (sC e s d)) (bW (sD h r) (sC e s d))
def Im (f g h e u v r s d:Nat->Int):Nat->Int:=aL (eG (sB f g u v) (sA f g u v)) (bW (sB f g u v) (sA f g u v))
theorem rP.sum {f g h e u v r s d:Nat->Int} {X Y Z T U V W S D:Int} (hp:rP f g h e X Y Z T) (hq:rP u v r s U V W S) (hd:Fe d D):
  rP (sumX f g h e u v r s d) (Il f g h e u v r s d) (sumZ f g h e u v r s d) (Im f g h e u v r s d) (smE X Y U V * smF Z T W S D) (smG Z T W S D * smH X Y U V) (smF Z T W S D * smG Z T W S D) (smE X Y U V * smH X Y U V):=by
 obtain ⟨p1,p2,p3,p4⟩:=hp;obtain ⟨q1,q2,q3,q4⟩:=hq;have a:=(p2.eG p1).aL (q2.eG q1);have b:=(p2.bW p1).aL (q2.bW q1);have c:=(p4.aL q4).aL hd;have dd:=(p3.aL q3).bW (p3.aL q3);exact ⟨(b.eG a).aL (dd.eG c),(dd.bW c).aL (b.bW a),(dd.eG c).aL (dd.bW c),(b.eG a).aL (b.bW a)⟩
theorem qV (w:World):Calls Tryz.prog 217 #[] w fun e w'=> e=.returned (El iG)/\Below w.heap.size w w':=by
 have HS:Hid (∀n w,Calls Tryz.prog 200 #[.int .i64 n] w fun e w'=> e=.returned (.agg (arr .i64 16 (aN n)))/\Below w.heap.size w w'):=fun n w=> dR n w;unfold El
 go_enter Tryz.func217,Tryz.ntmps217
 go_upto_region 1 with (fail);refine aG (fun w1=> aH .i64 w1 w.heap.size 16 (fun _=> 0)/\Below w.heap.size w w1) ⟨bG rfl (by rfl),(bM _ _).alloc (bB _) _⟩ ?_;rintro w1 ⟨hZ,hbel⟩
 refine aT (n:=14) (by kernel_rfl) (by kernel_rfl) (by kernel_rfl) rfl
  (gJ [(4,2),(5,3)]) (dS [(4,2),(5,3)]) (fun _=> arr .i64 16 (fun _=> 0)) (fun i=> match i with | 2=> (arr .i64 16 (aN 60833)) | 3=> (arr .i64 16 (aN 60832)) | _=> #[]) (fun _=> 191) (fun i=> match i with | 2=> 1 | 3=> 2 | _=> 0)
  (fun ii vv _=> (match ii with | 0=> vv=.agg (arr .i64 16 (aN 60833)) | 1=> vv=.agg (arr .i64 16 (aN 60832)) | _=> True)) (fun _ _=> True) (fun _ _ _=> trivial) (fun _ _ _ _ _ _ _=> trivial) (fun _ _ _ _ h _=> h)
  (eT rfl) (dA rfl) ?_ ?_ ?_ ?_
 ·refine bQ ?_;refine ⟨?_,?_,(fun h=> by cases h),(fun h=> by cases h),(fun _ h=> by cases h),(fun _ h=> by cases h),trivial⟩
  ·intro _ _ a w2 hB hF hd;refine aJ <| aD _ _ _ rfl Tryz.call200 _ (args1 rfl) (by simp) ((dR 60833 w2).mono ?_);rintro e w3 ⟨rfl,hb⟩;exact ⟨_,rfl,rfl,hb⟩
  ·intro _ _ a w2 hB hF hd;refine aJ <| aD _ _ _ rfl Tryz.call200 _ (args1 rfl) (by simp) ((dR 60832 w2).mono ?_);rintro e w3 ⟨rfl,hb⟩;exact ⟨_,rfl,rfl,hb⟩
 ·refine bQ ?_;refine ⟨(fun h=> by cases h),(fun h=> by cases h),?_,?_,(fun h=> by cases h),(fun h=> by cases h),trivial⟩
  ·exact fun _=> ⟨rfl,rfl,fun a w2 K h=> aP rfl rfl Tryz.zeroValue191 (by simp) h⟩
  ·exact fun _=> ⟨rfl,rfl,fun a w2 K h=> aP rfl rfl Tryz.zeroValue191 (by simp) h⟩
 ·refine bQ ?_;refine ⟨(fun _ h=> by cases h),(fun _ h=> by cases h),(fun _ h=> by cases h),(fun _ h=> by cases h),?_,?_,trivial⟩
  ·intro p hp;obtain rfl:2=p:=fT hp;exact ⟨rfl,rfl,⟨_,rfl⟩,aj rfl,fun a w2 b K hB hF hd hx hb h=> aY rfl rfl bE hx (hd 0 _ rfl rfl rfl (aj rfl)) hb h⟩
  ·intro p hp;obtain rfl:3=p:=fT hp;exact ⟨rfl,rfl,⟨_,rfl⟩,aj rfl,fun a w2 b K hB hF hd hx hb h=> aY rfl rfl bE hx (hd 1 _ rfl rfl rfl (aj rfl)) hb h⟩
 ·intro a w2 blk hB hF hS hv hfin bU;obtain ⟨v2,Sd,v2u⟩:=hv 2 _ rfl rfl;obtain ⟨v3,BR,LB⟩:=hv 3 _ rfl rfl;have ha:=aI rfl rfl hF [_,_,_,_,undef,undef] rfl ⟨hS 0 _ rfl rfl rfl,hS 1 _ rfl rfl rfl,v2,v3,trivial,trivial,trivial⟩;have f2:=hfin 4 _ 2 rfl rfl;have f3:=hfin 5 _ 3 rfl rfl;have Kw:=bU 2 3 _ _ rfl rfl rfl rfl (by decide);simp only [puts,Act.put,dH,dI,dJ] at ha;subst ha;have V2:aH .i64 w2 (blk 2) 16 (aN 60833):=⟨_,f2⟩
  have V3:aH .i64 w2 (blk 3) 16 (aN 60832):=⟨_,f3⟩
  clear hS hv hfin bU hF v2 v3 f2 f3;have hz:=hZ.lt;replace hZ:=hZ.kept hB;replace hbel:=hbel.trans (hB.mono hbel.size);obtain ⟨x,hx⟩:∃x,x=blk 2:=⟨_,rfl⟩
  obtain ⟨y,hy⟩:∃x,x=blk 3:=⟨_,rfl⟩
  rw [<-hx] at V2 ⊢;rw [<-hy] at V3 ⊢;have h1:=V2;have h2:=V3;clear hB V2 V3 hx hy;go_upto_region 2 with (fail)
  refine bV (n:=14) (fun i=> i==9) (by kernel_rfl) (by kernel_rfl) (by kernel_rfl) (by kernel_rfl) rfl
   (fun ii vv _=> (match ii with | 0=> vv=.agg (arr .i64 16 (aN 60832)) | 1 | 3 | 4=> vv=.agg (arr .i64 16 (aN 60833)) | 2=> vv=.agg (arr .i64 16 (bW (aN 60832) (aN 60833))) | 5=> vv=.agg (arr .i64 16 (bW (aN 60833) (aN 60833))) | 6=> vv=.agg (arr .i64 16 (jD (bW (aN 60833) (aN 60833)))) | 7=> vv=.agg (arr .i64 16 (aL (bW (aN 60832) (aN 60833)) (jD (bW (aN 60833) (aN 60833))))) | 8=> vv=.agg (arr .i64 16 (iy (aL (bW (aN 60832) (aN 60833)) (jD (bW (aN 60833) (aN 60833)))))) | _=> True))
   (fun w w'=> Below w.heap.size w w') (fun _ _ h=> h) (fun _ _ _ _ h _=> h)
   (fun _=> w.heap.size) (fun _=> (arr .i64 16 (fun _=> 0))) (fun _=> (arr .i64 16 (iy (aL (bW (aN 60832) (aN 60833)) (jD (bW (aN 60833) (aN 60833)))))))
   (by intro i j _ _ hpi iL hne;simp only [beq_iff_eq] at hpi iL;omega)
   (by intro i _ hpi;exact (hZ).row)
   ?_ ?_ ?_
  ·refine bQ ?_;refine ⟨?_,?_,?_,?_,?_,?_,?_,?_,?_,(aK),trivial⟩
   ·intro _ a w2 hB hF hd;exact aJ <| aO (aB rfl bT rfl bE (hF.same 2 rfl) (h2.below hB h2.lt)) rfl
   ·intro _ a w2 hB hF hd;exact aJ <| aO (aB rfl bT rfl bE (hF.same 1 rfl) (h1.below hB h1.lt)) rfl
   ·intro _ a w2 hB hF hd;refine aJ <| aD _ _ _ rfl Tryz.call218 _ (args2 (hd 0 _ rfl rfl (aj rfl)) (hd 1 _ rfl rfl (aj rfl))) (by simp) ((fZ _ _ _ _ OP nU w2).mono ?_);rintro e w3 ⟨rfl,hb⟩;exact ⟨_,rfl,rfl,hb⟩
   ·intro _ a w2 hB hF hd;exact aJ <| aO (aB rfl bT rfl bE (hF.same 1 rfl) (h1.below hB h1.lt)) rfl
   ·intro _ a w2 hB hF hd;exact aJ <| aO (aB rfl bT rfl bE (hF.same 1 rfl) (h1.below hB h1.lt)) rfl
   ·intro _ a w2 hB hF hd;refine aJ <| aD _ _ _ rfl Tryz.call218 _ (args2 (hd 3 _ rfl rfl (aj rfl)) (hd 4 _ rfl rfl (aj rfl))) (by simp) ((fZ _ _ _ _ nU nU w2).mono ?_);rintro e w3 ⟨rfl,hb⟩;exact ⟨_,rfl,rfl,hb⟩
   ·intro _ a w2 hB hF hd;refine aJ <| aD _ _ _ rfl Tryz.call204 _ (args1 (hd 5 _ rfl rfl (aj rfl))) (by simp) ((jL _ _ ((nU).bW nU) w2).mono ?_);rintro e w3 ⟨rfl,hb⟩;exact ⟨_,rfl,rfl,hb⟩
   ·intro _ a w2 hB hF hd;refine aJ <| aD _ _ _ rfl Tryz.call203 _ (args2 (hd 2 _ rfl rfl (aj rfl)) (hd 6 _ rfl rfl (aj rfl))) (by simp) ((bJ _ _ _ _ ((OP).bW nU) (jR ((nU).bW nU)) w2).mono ?_);rintro e w3 ⟨rfl,hb⟩;exact ⟨_,rfl,rfl,hb⟩
   ·intro _ a w2 hB hF hd;refine aJ <| aD _ _ _ rfl Tryz.call211 _ (args1 (hd 7 _ rfl rfl (aj rfl))) (by simp) ((mI _ _ ((((OP).bW nU)).aL (jR ((nU).bW nU))) w2).mono ?_);rintro e w3 ⟨rfl,hb⟩;exact ⟨_,rfl,rfl,hb⟩
  ·refine bQ ?_;refine ⟨(aK),(aK),(aK),(aK),(aK),(aK),(aK),(aK),(aK),?_,trivial⟩
   ·intro _ a w1 w2 K hB hF hS hr hK;exact aW 191 _ _ rfl .i64 (w.heap.size) 16 (fun _=> 0) (iy (aL (bW (aN 60832) (aN 60833)) (jD (bW (aN 60833) (aN 60833))))) bE (hF.same 0 rfl) (hS 8 _ rfl rfl) hr hK
  ·intro a wf w3 hB hF hS hfil;have other:∀{k:IntKind} {qb n:Nat} {f:Nat->Int},qb≠w.heap.size->aH k wf qb n f->aH k w3 qb n f:=fun {k qb n f} e0 hA=> hfil.arr (by intro i _ hpi;simp only [jY,beq_iff_eq] at hpi;subst hpi<;> ((try simp only []);(try dsimp only);omega)) hA;have dx:∀{B:Nat} {w0:World},B<=w.heap.size->Below B w0 wf->Below B w0 w3:=fun {B w0} e0 hA=> hfil.below (by intro i _ hpi;simp only [jY,beq_iff_eq] at hpi;subst hpi<;> ((try simp only []);(try dsimp only);omega)) hA;have V9:aH .i64 w3 (w.heap.size) 16 (iy (aL (bW (aN 60832) (aN 60833)) (jD (bW (aN 60833) (aN 60833))))):=hfil.at 9 (by decide) rfl;have oL:=hfil.size;clear hfil;have ha:=aI rfl rfl hF [_,_,_,_,_,_,_,_,_,undef] rfl ⟨hS 0 _ rfl rfl,hS 1 _ rfl rfl,hS 2 _ rfl rfl,hS 3 _ rfl rfl,hS 4 _ rfl rfl,hS 5 _ rfl rfl,hS 6 _ rfl rfl,hS 7 _ rfl rfl,hS 8 _ rfl rfl,trivial,trivial⟩;simp only [puts,Act.put,dH,dI,dJ] at ha;subst ha;clear hS hF;have hb:=dx (bB _) (hbel.trans (hB.mono hbel.size));go_wp2;exact bodyPost_ret (cO rfl _ _ .i64 w.heap.size 16 _ rfl V9 bT rfl bE) rfl ⟨rfl,hb⟩
theorem mU (f g:Nat->Int) (X Y:Int) (hf:Fe f X) (hg:Fe g Y) (w:World):Calls Tryz.prog 212 #[El f,El g] w fun e w'=> e=.returned (Pt f g (aN 1) (aL f g))/\Below w.heap.size w w':=by
 have HF:=ak hf;have HG:=ak hg;clear hf hg;unfold El Pt
 go_enter Tryz.func212,Tryz.ntmps212
 go_upto_region 1 with (fail);refine aG (fun w1=> aH .i64 w1 w.heap.size 16 f/\aH .i64 w1 (w.heap.size+1) 16 g/\aH .i64 w1 (w.heap.size+2) 64 (fun _=> 0)/\Below w.heap.size w w1) ⟨.alloc (.alloc (bG rfl rfl) _) _,.alloc (bG (by first | omega | (simp<;> omega)) rfl) _,bG (by first | omega | (simp<;> omega)) (by rfl),(((bM _ _).alloc (bB _) _).alloc (by first | omega | (simp<;> omega)) _).alloc (by first | omega | (simp<;> omega)) _⟩ ?_;rintro w1 ⟨hA,hC,hZ,hbel⟩
 refine bV (n:=12) (fun i=> i==7) (by kernel_rfl) (by kernel_rfl) (by kernel_rfl) (by kernel_rfl) rfl
  (fun ii vv _=> (match ii with | 0 | 3=> vv=.agg (arr .i64 16 (f)) | 1 | 4=> vv=.agg (arr .i64 16 (g)) | 2=> vv=.agg (arr .i64 16 (aN 1)) | 5=> vv=.agg (arr .i64 16 (aL (f) (g))) | 6=> vv=.agg (arr .i64 64 (pt (f) (g) (aN 1) (aL (f) (g)))) | _=> True))
  (fun w w'=> Below w.heap.size w w') (fun _ _ h=> h) (fun _ _ _ _ h _=> h)
  (fun _=> (w.heap.size+2)) (fun _=> (arr .i64 64 (fun _=> 0))) (fun _=> (arr .i64 64 (pt (f) (g) (aN 1) (aL (f) (g)))))
  (by intro i j _ _ hpi iL hne;simp only [beq_iff_eq] at hpi iL;omega)
  (by intro i _ hpi;exact (hZ).row)
  ?_ ?_ ?_
 ·refine bQ ?_;refine ⟨?_,?_,?_,?_,?_,?_,?_,(aK),trivial⟩
  ·intro _ a w2 hB hF hd;exact aJ <| aO (aB rfl bT rfl bE (hF.same 2 rfl) (hA.below hB hA.lt)) rfl
  ·intro _ a w2 hB hF hd;exact aJ <| aO (aB rfl bT rfl bE (hF.same 3 rfl) (hC.below hB hC.lt)) rfl
  ·intro _ a w2 hB hF hd;refine aJ <| aD _ _ _ rfl Tryz.call200 _ (args1 rfl) (by simp) ((dR 1 w2).mono ?_);rintro e w3 ⟨rfl,hb⟩;exact ⟨_,rfl,rfl,hb⟩
  ·intro _ a w2 hB hF hd;exact aJ <| aO (aB rfl bT rfl bE (hF.same 2 rfl) (hA.below hB hA.lt)) rfl
  ·intro _ a w2 hB hF hd;exact aJ <| aO (aB rfl bT rfl bE (hF.same 3 rfl) (hC.below hB hC.lt)) rfl
  ·intro _ a w2 hB hF hd;refine aJ <| aD _ _ _ rfl Tryz.call203 _ (args2 (hd 3 _ rfl rfl (aj rfl)) (hd 4 _ rfl rfl (aj rfl))) (by simp) ((bJ _ _ _ _ HF.out HG.out w2).mono ?_);rintro e w3 ⟨rfl,hb⟩;exact ⟨_,rfl,rfl,hb⟩
  ·intro _ a w2 hB hF hd;exact aJ <| aO (dL rfl (by simp only [uG,List.map_cons,List.map_nil,show a.eval (Operand.tmp 5)=.agg (arr .i64 16 (f)) from (hd 0 _ rfl rfl (aj rfl)),show a.eval (Operand.tmp 6)=.agg (arr .i64 16 (g)) from (hd 1 _ rfl rfl (aj rfl)),show a.eval (Operand.tmp 7)=.agg (arr .i64 16 (aN 1)) from (hd 2 _ rfl rfl (aj rfl)),show a.eval (Operand.tmp 10)=.agg (arr .i64 16 (aL (f) (g))) from (hd 5 _ rfl rfl (aj rfl))];exact Bo _ _ _ _ _)) rfl
 ·refine bQ ?_;refine ⟨(aK),(aK),(aK),(aK),(aK),(aK),(aK),?_,trivial⟩
  ·intro _ a w1 w2 K hB hF hS hr hK;exact aW 193 _ _ rfl .i64 ((w.heap.size+2)) 64 (fun _=> 0) (pt (f) (g) (aN 1) (aL (f) (g))) Tryz.size193 (hF.same 4 rfl) (hS 6 _ rfl rfl) hr hK
 ·intro a wf w3 hB hF hS hfil;have other:∀{k:IntKind} {qb n:Nat} {f:Nat->Int},qb≠(w.heap.size+2)->aH k wf qb n f->aH k w3 qb n f:=fun {k qb n f} e0 hA=> hfil.arr (by intro i _ hpi;simp only [jY,beq_iff_eq] at hpi;subst hpi<;> ((try simp only []);(try dsimp only);omega)) hA;have dx:∀{B:Nat} {w0:World},B<=(w.heap.size+2)->Below B w0 wf->Below B w0 w3:=fun {B w0} e0 hA=> hfil.below (by intro i _ hpi;simp only [jY,beq_iff_eq] at hpi;subst hpi<;> ((try simp only []);(try dsimp only);omega)) hA;have V7:aH .i64 w3 ((w.heap.size+2)) 64 (pt (f) (g) (aN 1) (aL (f) (g))):=hfil.at 7 (by decide) rfl;have oL:=hfil.size;clear hfil;have ha:=aI rfl rfl hF [_,_,_,_,_,_,_,undef] rfl ⟨hS 0 _ rfl rfl,hS 1 _ rfl rfl,hS 2 _ rfl rfl,hS 3 _ rfl rfl,hS 4 _ rfl rfl,hS 5 _ rfl rfl,hS 6 _ rfl rfl,trivial,trivial⟩;simp only [puts,Act.put,dH,dI,dJ] at ha;subst ha;clear hS hF;have hb:=dx (by omega) (hbel.trans (hB.mono hbel.size));go_wp2;exact bodyPost_ret (cO rfl _ _ .i64 (w.heap.size+2) 64 _ rfl V7 uH rfl Tryz.size193) rfl ⟨rfl,hb⟩
theorem FL (w:World):Calls Tryz.prog 219 #[] w fun e w'=> e=.returned (Pt (aN 0) (aN 1) (aN 1) (aL (aN 0) (aN 1)))/\Below w.heap.size w w':=by
 unfold Pt
 go_enter Tryz.func219,Tryz.ntmps219
 go_upto_region 1 with (fail);refine aG (fun w1=> aH .i64 w1 w.heap.size 64 (fun _=> 0)/\Below w.heap.size w w1) ⟨bG rfl (by rfl),(bM _ _).alloc (bB _) _⟩ ?_;rintro w1 ⟨hZ,hbel⟩
 refine bV (n:=4) (fun i=> i==3) (by kernel_rfl) (by kernel_rfl) (by kernel_rfl) (by kernel_rfl) rfl
  (fun ii vv _=> (match ii with | 0=> vv=.agg (arr .i64 16 (aN 0)) | 1=> vv=.agg (arr .i64 16 (aN 1)) | 2=> vv=.agg (arr .i64 64 (pt (aN 0) (aN 1) (aN 1) (aL (aN 0) (aN 1)))) | _=> True))
  (fun w w'=> Below w.heap.size w w') (fun _ _ h=> h) (fun _ _ _ _ h _=> h)
  (fun _=> w.heap.size) (fun _=> (arr .i64 64 (fun _=> 0))) (fun _=> (arr .i64 64 (pt (aN 0) (aN 1) (aN 1) (aL (aN 0) (aN 1)))))
  (by intro i j _ _ hpi iL hne;simp only [beq_iff_eq] at hpi iL;omega)
  (by intro i _ hpi;exact (hZ).row)
  ?_ ?_ ?_
 ·refine bQ ?_;refine ⟨?_,?_,?_,(aK),trivial⟩
  ·intro _ a w2 hB hF hd;refine aJ <| aD _ _ _ rfl Tryz.call200 _ (args1 rfl) (by simp) ((dR 0 w2).mono ?_);rintro e w3 ⟨rfl,hb⟩;exact ⟨_,rfl,rfl,hb⟩
  ·intro _ a w2 hB hF hd;refine aJ <| aD _ _ _ rfl Tryz.call200 _ (args1 rfl) (by simp) ((dR 1 w2).mono ?_);rintro e w3 ⟨rfl,hb⟩;exact ⟨_,rfl,rfl,hb⟩
  ·intro _ a w2 hB hF hd;refine aJ <| aD _ _ _ rfl Tryz.call212 _ (args2 (hd 0 _ rfl rfl (aj rfl)) (hd 1 _ rfl rfl (aj rfl))) (by simp) ((mU _ _ _ _ Km qy w2).mono ?_);rintro e w3 ⟨rfl,hb⟩;exact ⟨_,rfl,rfl,hb⟩
 ·refine bQ ?_;refine ⟨(aK),(aK),(aK),?_,trivial⟩
  ·intro _ a w1 w2 K hB hF hS hr hK;exact aW 193 _ _ rfl .i64 (w.heap.size) 64 (fun _=> 0) (pt (aN 0) (aN 1) (aN 1) (aL (aN 0) (aN 1))) Tryz.size193 (hF.same 0 rfl) (hS 2 _ rfl rfl) hr hK
 ·intro a wf w3 hB hF hS hfil;have other:∀{k:IntKind} {qb n:Nat} {f:Nat->Int},qb≠w.heap.size->aH k wf qb n f->aH k w3 qb n f:=fun {k qb n f} e0 hA=> hfil.arr (by intro i _ hpi;simp only [jY,beq_iff_eq] at hpi;subst hpi<;> ((try simp only []);(try dsimp only);omega)) hA;have dx:∀{B:Nat} {w0:World},B<=w.heap.size->Below B w0 wf->Below B w0 w3:=fun {B w0} e0 hA=> hfil.below (by intro i _ hpi;simp only [jY,beq_iff_eq] at hpi;subst hpi<;> ((try simp only []);(try dsimp only);omega)) hA;have V3:aH .i64 w3 (w.heap.size) 64 (pt (aN 0) (aN 1) (aN 1) (aL (aN 0) (aN 1))):=hfil.at 3 (by decide) rfl;have oL:=hfil.size;clear hfil;have ha:=aI rfl rfl hF [_,_,_,undef] rfl ⟨hS 0 _ rfl rfl,hS 1 _ rfl rfl,hS 2 _ rfl rfl,trivial,trivial⟩;simp only [puts,Act.put,dH,dI,dJ] at ha;subst ha;clear hS hF;have hb:=dx (bB _) (hbel.trans (hB.mono hbel.size));go_wp2;exact bodyPost_ret (cO rfl _ _ .i64 w.heap.size 64 _ rfl V3 uH rfl Tryz.size193) rfl ⟨rfl,hb⟩
theorem Qf (f g h e:Nat->Int) (X Y Z T:Int) (hp:rP f g h e X Y Z T) (w:World):Calls Tryz.prog 160 #[Pt f g h e] w fun e_ w'=> e_=.returned (Pt (iy f) g h (iy e))/\Below w.heap.size w w':=by
 have HP:=ak hp;clear hp;unfold Pt
 go_enter Tryz.func160,Tryz.ntmps160
 go_upto_region 1 with (fail);refine aG (fun w1=> aH .i64 w1 w.heap.size 64 (pt f g h e)/\aH .i64 w1 (w.heap.size+1) 64 (fun _=> 0)/\Below w.heap.size w w1) ⟨.alloc (bG rfl rfl) _,bG (by first | omega | (simp<;> omega)) (by rfl),((bM _ _).alloc (bB _) _).alloc (by first | omega | (simp<;> omega)) _⟩ ?_;rintro w1 ⟨hA,hZ,hbel⟩
 refine bV (n:=14) (fun i=> i==11) (by kernel_rfl) (by kernel_rfl) (by kernel_rfl) (by kernel_rfl) rfl
  (fun ii vv _=> (match ii with | 0=> vv=.pointer (some ⟨w.heap.size,0,none⟩) | 1=> vv=.agg (arr .i64 16 (f)) | 2=> vv=.agg (arr .i64 16 (iy (f))) | 3=> vv=.pointer (some ⟨w.heap.size,16,none⟩) | 4=> vv=.agg (arr .i64 16 (g)) | 5=> vv=.pointer (some ⟨w.heap.size,32,none⟩) | 6=> vv=.agg (arr .i64 16 (h)) | 7=> vv=.pointer (some ⟨w.heap.size,48,none⟩) | 8=> vv=.agg (arr .i64 16 (e)) | 9=> vv=.agg (arr .i64 16 (iy (e))) | 10=> vv=.agg (arr .i64 64 (pt (iy (f)) (g) (h) (iy (e)))) | _=> True))
  (fun w w'=> Below w.heap.size w w') (fun _ _ h=> h) (fun _ _ _ _ h _=> h)
  (fun _=> (w.heap.size+1)) (fun _=> (arr .i64 64 (fun _=> 0))) (fun _=> (arr .i64 64 (pt (iy (f)) (g) (h) (iy (e)))))
  (by intro i j _ _ hpi iL hne;simp only [beq_iff_eq] at hpi iL;omega)
  (by intro i _ hpi;exact (hZ).row)
  ?_ ?_ ?_
 ·refine bQ ?_;refine ⟨?_,?_,?_,?_,?_,?_,?_,?_,?_,?_,?_,(aK),trivial⟩
  ·intro _ a w2 hB hF hd;refine aJ <| aO (bC (m:=15) (k:=0) rfl (hF.same 1 rfl) (by kernel_rfl)) ?_;exact rfl
  ·intro _ a w2 hB hF hd;exact aJ <| aO (bH rfl (hd 0 _ rfl rfl (aj rfl)) bT rfl bE (fun i hi=> (hB.cell (p:=⟨w.heap.size,0+i,none⟩) hA.lt).trans (FH hA i hi))) rfl
  ·intro _ a w2 hB hF hd;refine aJ <| aD _ _ _ rfl Tryz.call211 _ (args1 (hd 1 _ rfl rfl (aj rfl))) (by simp) ((mI _ _ HP.out.1 w2).mono ?_);rintro e w3 ⟨rfl,hb⟩;exact ⟨_,rfl,rfl,hb⟩
  ·intro _ a w2 hB hF hd;refine aJ <| aO (bC (m:=15) (k:=16) rfl (hF.same 1 rfl) (by kernel_rfl)) ?_;exact rfl
  ·intro _ a w2 hB hF hd;exact aJ <| aO (bH rfl (hd 3 _ rfl rfl (aj rfl)) bT rfl bE (fun i hi=> (hB.cell (p:=⟨w.heap.size,16+i,none⟩) hA.lt).trans (Jg hA i hi))) rfl
  ·intro _ a w2 hB hF hd;refine aJ <| aO (bC (m:=15) (k:=32) rfl (hF.same 1 rfl) (by kernel_rfl)) ?_;exact rfl
  ·intro _ a w2 hB hF hd;exact aJ <| aO (bH rfl (hd 5 _ rfl rfl (aj rfl)) bT rfl bE (fun i hi=> (hB.cell (p:=⟨w.heap.size,32+i,none⟩) hA.lt).trans (Mq hA i hi))) rfl
  ·intro _ a w2 hB hF hd;refine aJ <| aO (bC (m:=15) (k:=48) rfl (hF.same 1 rfl) (by kernel_rfl)) ?_;exact rfl
  ·intro _ a w2 hB hF hd;exact aJ <| aO (bH rfl (hd 7 _ rfl rfl (aj rfl)) bT rfl bE (fun i hi=> (hB.cell (p:=⟨w.heap.size,48+i,none⟩) hA.lt).trans (Uf hA i hi))) rfl
  ·intro _ a w2 hB hF hd;refine aJ <| aD _ _ _ rfl Tryz.call211 _ (args1 (hd 8 _ rfl rfl (aj rfl))) (by simp) ((mI _ _ HP.out.2.2.2 w2).mono ?_);rintro e w3 ⟨rfl,hb⟩;exact ⟨_,rfl,rfl,hb⟩
  ·intro _ a w2 hB hF hd;exact aJ <| aO (dL rfl (by simp only [uG,List.map_cons,List.map_nil,show a.eval (Operand.tmp 5)=.agg (arr .i64 16 (iy (f))) from (hd 2 _ rfl rfl (aj rfl)),show a.eval (Operand.tmp 7)=.agg (arr .i64 16 (g)) from (hd 4 _ rfl rfl (aj rfl)),show a.eval (Operand.tmp 9)=.agg (arr .i64 16 (h)) from (hd 6 _ rfl rfl (aj rfl)),show a.eval (Operand.tmp 12)=.agg (arr .i64 16 (iy (e))) from (hd 9 _ rfl rfl (aj rfl))];exact Bo _ _ _ _ _)) rfl
 ·refine bQ ?_;refine ⟨(aK),(aK),(aK),(aK),(aK),(aK),(aK),(aK),(aK),(aK),(aK),?_,trivial⟩
  ·intro _ a w1 w2 K hB hF hS hr hK;exact aW 193 _ _ rfl .i64 ((w.heap.size+1)) 64 (fun _=> 0) (pt (iy (f)) (g) (h) (iy (e))) Tryz.size193 (hF.same 2 rfl) (hS 10 _ rfl rfl) hr hK
 ·intro a wf w3 hB hF hS hfil;have other:∀{k:IntKind} {qb n:Nat} {f:Nat->Int},qb≠(w.heap.size+1)->aH k wf qb n f->aH k w3 qb n f:=fun {k qb n f} e0 hA=> hfil.arr (by intro i _ hpi;simp only [jY,beq_iff_eq] at hpi;subst hpi<;> ((try simp only []);(try dsimp only);omega)) hA;have dx:∀{B:Nat} {w0:World},B<=(w.heap.size+1)->Below B w0 wf->Below B w0 w3:=fun {B w0} e0 hA=> hfil.below (by intro i _ hpi;simp only [jY,beq_iff_eq] at hpi;subst hpi<;> ((try simp only []);(try dsimp only);omega)) hA;have RL:aH .i64 w3 ((w.heap.size+1)) 64 (pt (iy (f)) (g) (h) (iy (e))):=hfil.at 11 (by decide) rfl;have oL:=hfil.size;clear hfil;have ha:=aI rfl rfl hF [_,_,_,_,_,_,_,_,_,_,_,undef] rfl ⟨hS 0 _ rfl rfl,hS 1 _ rfl rfl,hS 2 _ rfl rfl,hS 3 _ rfl rfl,hS 4 _ rfl rfl,hS 5 _ rfl rfl,hS 6 _ rfl rfl,hS 7 _ rfl rfl,hS 8 _ rfl rfl,hS 9 _ rfl rfl,hS 10 _ rfl rfl,trivial,trivial⟩;simp only [puts,Act.put,dH,dI,dJ] at ha;subst ha;clear hS hF;have hb:=dx (by omega) (hbel.trans (hB.mono hbel.size));go_wp2;exact bodyPost_ret (cO rfl _ _ .i64 (w.heap.size+1) 64 _ rfl RL uH rfl Tryz.size193) rfl ⟨rfl,hb⟩
theorem DT (f g h e u v r s d:Nat->Int) (X Y Z T U V W S D:Int) (hp:rP f g h e X Y Z T) (hq:rP u v r s U V W S) (hd:Fe d D) (w:World):
  Calls Tryz.prog 221 #[Pt f g h e,Pt u v r s,El d] w fun e_ w'=> e_=.returned (Pt (sumX f g h e u v r s d) (Il f g h e u v r s d) (sumZ f g h e u v r s d) (Im f g h e u v r s d))/\Below w.heap.size w w':=by
 have HP:=ak hp;have HQ:=ak hq;have HD:=ak hd;clear hp hq hd;unfold Pt El
 go_enter Tryz.func221,Tryz.ntmps221
 go_upto_region 1 with (fail)
 refine aG (fun w1=> aH .i64 w1 w.heap.size 64 (pt f g h e)/\aH .i64 w1 (w.heap.size+1) 64 (pt u v r s)/\aH .i64 w1 (w.heap.size+2) 16 d/\aH .i64 w1 (w.heap.size+3) 64 (fun _=> 0)/\Below w.heap.size w w1)
  ⟨.alloc (.alloc (.alloc (bG rfl rfl) _) _) _,.alloc (.alloc (bG (by first | omega | (simp<;> omega)) rfl) _) _,.alloc (bG (by first | omega | (simp<;> omega)) rfl) _,bG (by first | omega | (simp<;> omega)) (by rfl),((((bM _ _).alloc (bB _) _).alloc (by first | omega | (simp<;> omega)) _).alloc (by first | omega | (simp<;> omega)) _).alloc (by first | omega | (simp<;> omega)) _⟩ ?_
 rintro w1 ⟨hA,hC,hE,hZ,hbel⟩;have hsz:w.heap.size+4<=w1.heap.size:=by have:=hZ.lt;omega
 refine aT (n:=77) (by kernel_rfl) (by kernel_rfl) (by kernel_rfl) rfl
  (gJ [(12,11)]) (dS [(12,11)]) (fun _=> arr .i64 16 (fun _=> 0)) (fun _=> (arr .i64 16 (aL (eG (g) (f)) (eG (v) (u))))) (fun _=> 191) (fun _=> 7)
  (fun ii vv _=> (match ii with | 0=> vv=.pointer (some ⟨w.heap.size,16,none⟩) | 1=> vv=.agg (arr .i64 16 (g)) | 2=> vv=.pointer (some ⟨w.heap.size,0,none⟩) | 3=> vv=.agg (arr .i64 16 (f)) | 4=> vv=.agg (arr .i64 16 (eG (g) (f))) | 5=> vv=.pointer (some ⟨(w.heap.size+1),16,none⟩) | 6=> vv=.agg (arr .i64 16 (v)) | 7=> vv=.pointer (some ⟨(w.heap.size+1),0,none⟩) | 8=> vv=.agg (arr .i64 16 (u)) | 9=> vv=.agg (arr .i64 16 (eG (v) (u))) | 10=> vv=.agg (arr .i64 16 (aL (eG (g) (f)) (eG (v) (u)))) | _=> True)) (fun _ _=> True) (fun _ _ _=> trivial) (fun _ _ _ _ _ _ _=> trivial) (fun _ _ _ _ h _=> h)
  (eT rfl) (dA rfl) ?_ ?_ ?_ ?_
 ·refine bQ ?_;refine ⟨?_,?_,?_,?_,?_,?_,?_,?_,?_,?_,?_,(fun h=> by cases h),(fun _ h=> by cases h),trivial⟩
  ·intro _ _ a w2 hB hF hd;refine aJ <| aO (bC (m:=15) (k:=16) rfl (hF.same 3 rfl) (by kernel_rfl)) ?_;exact rfl
  ·intro _ _ a w2 hB hF hd;exact aJ <| aO (bH rfl (hd 0 _ rfl rfl rfl (aj rfl)) bT rfl bE (fun i hi=> (hB.cell (p:=⟨w.heap.size,16+i,none⟩) hA.lt).trans (Jg hA i hi))) rfl
  ·intro _ _ a w2 hB hF hd;refine aJ <| aO (bC (m:=15) (k:=0) rfl (hF.same 3 rfl) (by kernel_rfl)) ?_;exact rfl
  ·intro _ _ a w2 hB hF hd;exact aJ <| aO (bH rfl (hd 2 _ rfl rfl rfl (aj rfl)) bT rfl bE (fun i hi=> (hB.cell (p:=⟨w.heap.size,0+i,none⟩) hA.lt).trans (FH hA i hi))) rfl
  ·intro _ _ a w2 hB hF hd;refine aJ <| aD _ _ _ rfl Tryz.call244 _ (args2 (hd 1 _ rfl rfl rfl (aj rfl)) (hd 3 _ rfl rfl rfl (aj rfl))) (by simp) ((iU _ _ _ _ HP.out.2.1 HP.out.1 w2).mono ?_);rintro e w3 ⟨rfl,hb⟩;exact ⟨_,rfl,rfl,hb⟩
  ·intro _ _ a w2 hB hF hd;refine aJ <| aO (bC (m:=15) (k:=16) rfl (hF.same 4 rfl) (by kernel_rfl)) ?_;exact rfl
  ·intro _ _ a w2 hB hF hd;exact aJ <| aO (bH rfl (hd 5 _ rfl rfl rfl (aj rfl)) bT rfl bE (fun i hi=> (hB.cell (p:=⟨(w.heap.size+1),16+i,none⟩) hC.lt).trans (Jg hC i hi))) rfl
  ·intro _ _ a w2 hB hF hd;refine aJ <| aO (bC (m:=15) (k:=0) rfl (hF.same 4 rfl) (by kernel_rfl)) ?_;exact rfl
  ·intro _ _ a w2 hB hF hd;exact aJ <| aO (bH rfl (hd 7 _ rfl rfl rfl (aj rfl)) bT rfl bE (fun i hi=> (hB.cell (p:=⟨(w.heap.size+1),0+i,none⟩) hC.lt).trans (FH hC i hi))) rfl
  ·intro _ _ a w2 hB hF hd;refine aJ <| aD _ _ _ rfl Tryz.call244 _ (args2 (hd 6 _ rfl rfl rfl (aj rfl)) (hd 8 _ rfl rfl rfl (aj rfl))) (by simp) ((iU _ _ _ _ HQ.out.2.1 HQ.out.1 w2).mono ?_);rintro e w3 ⟨rfl,hb⟩;exact ⟨_,rfl,rfl,hb⟩
  ·intro _ _ a w2 hB hF hd;refine aJ <| aD _ _ _ rfl Tryz.call203 _ (args2 (hd 4 _ rfl rfl rfl (aj rfl)) (hd 9 _ rfl rfl rfl (aj rfl))) (by simp) ((bJ _ _ _ _ ((HP.out.2.1).eG HP.out.1) ((HQ.out.2.1).eG HQ.out.1) w2).mono ?_);rintro e w3 ⟨rfl,hb⟩;exact ⟨_,rfl,rfl,hb⟩
 ·refine bQ ?_;refine ⟨(fun h=> by cases h),(fun h=> by cases h),(fun h=> by cases h),(fun h=> by cases h),(fun h=> by cases h),(fun h=> by cases h),(fun h=> by cases h),(fun h=> by cases h),(fun h=> by cases h),(fun h=> by cases h),(fun h=> by cases h),?_,(fun h=> by cases h),trivial⟩
  ·exact fun _=> ⟨rfl,rfl,fun a w2 K h=> aP rfl rfl Tryz.zeroValue191 (by simp) h⟩
 ·refine bQ ?_;refine ⟨(fun _ h=> by cases h),(fun _ h=> by cases h),(fun _ h=> by cases h),(fun _ h=> by cases h),(fun _ h=> by cases h),(fun _ h=> by cases h),(fun _ h=> by cases h),(fun _ h=> by cases h),(fun _ h=> by cases h),(fun _ h=> by cases h),(fun _ h=> by cases h),(fun _ h=> by cases h),?_,trivial⟩
  ·intro p hp;obtain rfl:11=p:=fT hp;exact ⟨rfl,rfl,⟨_,rfl⟩,aj rfl,fun a w2 b K hB hF hd hx hb h=> aY rfl rfl bE hx (hd 10 _ rfl rfl rfl (aj rfl)) hb h⟩
 ·intro a w2 blk hB hF hS hv hfin bU;obtain ⟨v11,zK,SQ⟩:=hv 11 _ rfl rfl;have ha:=aI rfl rfl hF [_,_,_,_,_,_,_,_,_,_,_,_,undef] rfl ⟨hS 0 _ rfl rfl rfl,hS 1 _ rfl rfl rfl,hS 2 _ rfl rfl rfl,hS 3 _ rfl rfl rfl,hS 4 _ rfl rfl rfl,hS 5 _ rfl rfl rfl,hS 6 _ rfl rfl rfl,hS 7 _ rfl rfl rfl,hS 8 _ rfl rfl rfl,hS 9 _ rfl rfl rfl,hS 10 _ rfl rfl rfl,v11,trivial,trivial⟩;have f11:=hfin 12 _ 11 rfl rfl;simp only [puts,Act.put,dH,dI,dJ] at ha;subst ha;have RL:aH .i64 w2 (blk 11) 16 (aL (eG (g) (f)) (eG (v) (u))):=⟨_,f11⟩
  clear hS hv hfin bU hF v11 f11;replace hA:=hA.kept hB;replace hC:=hC.kept hB;replace hE:=hE.kept hB;replace hZ:=hZ.kept hB;obtain ⟨baa,MW⟩:∃x,x=blk 11:=⟨_,rfl⟩
  obtain ⟨aa,haa,Xaa,Sn⟩:∃x,x=aL (eG g f) (eG v u)/\∃N,Hid (Fe x N):=⟨_,rfl,_,(HP.out.2.1.eG HP.out.1).aL (HQ.out.2.1.eG HQ.out.1)⟩
  rw [<-haa,←MW] at RL;rw [<-MW] at zK ⊢;have laa:w.heap.size+4<=baa:=jG hsz zK;have Kaa:=ak haa;replace hbel:=hbel.trans (hB.mono hbel.size);replace hsz:=jG hsz hB.size;clear hB haa MW;have kL:=RL;clear RL zK SQ;go_upto_region 2 with (fail)
  refine aT (n:=77) (by kernel_rfl) (by kernel_rfl) (by kernel_rfl) rfl
   (gJ [(12,11)]) (dS [(12,11)]) (fun _=> arr .i64 16 (fun _=> 0)) (fun _=> (arr .i64 16 (aL (bW (g) (f)) (bW (v) (u))))) (fun _=> 191) (fun _=> 8)
   (fun ii vv _=> (match ii with | 0=> vv=.pointer (some ⟨w.heap.size,16,none⟩) | 1=> vv=.agg (arr .i64 16 (g)) | 2=> vv=.pointer (some ⟨w.heap.size,0,none⟩) | 3=> vv=.agg (arr .i64 16 (f)) | 4=> vv=.agg (arr .i64 16 (bW (g) (f))) | 5=> vv=.pointer (some ⟨(w.heap.size+1),16,none⟩) | 6=> vv=.agg (arr .i64 16 (v)) | 7=> vv=.pointer (some ⟨(w.heap.size+1),0,none⟩) | 8=> vv=.agg (arr .i64 16 (u)) | 9=> vv=.agg (arr .i64 16 (bW (v) (u))) | 10=> vv=.agg (arr .i64 16 (aL (bW (g) (f)) (bW (v) (u)))) | _=> True)) (fun _ _=> True) (fun _ _ _=> trivial) (fun _ _ _ _ _ _ _=> trivial) (fun _ _ _ _ h _=> h)
   (eT rfl) (dA rfl) ?_ ?_ ?_ ?_
  ·refine bQ ?_;refine ⟨?_,?_,?_,?_,?_,?_,?_,?_,?_,?_,?_,(fun h=> by cases h),(fun _ h=> by cases h),trivial⟩
   ·intro _ _ a w2 hB hF hd;refine aJ <| aO (bC (m:=15) (k:=16) rfl (hF.same 3 rfl) (by kernel_rfl)) ?_;exact rfl
   ·intro _ _ a w2 hB hF hd;exact aJ <| aO (bH rfl (hd 0 _ rfl rfl rfl (aj rfl)) bT rfl bE (fun i hi=> (hB.cell (p:=⟨w.heap.size,16+i,none⟩) hA.lt).trans (Jg hA i hi))) rfl
   ·intro _ _ a w2 hB hF hd;refine aJ <| aO (bC (m:=15) (k:=0) rfl (hF.same 3 rfl) (by kernel_rfl)) ?_;exact rfl
   ·intro _ _ a w2 hB hF hd;exact aJ <| aO (bH rfl (hd 2 _ rfl rfl rfl (aj rfl)) bT rfl bE (fun i hi=> (hB.cell (p:=⟨w.heap.size,0+i,none⟩) hA.lt).trans (FH hA i hi))) rfl
   ·intro _ _ a w2 hB hF hd;refine aJ <| aD _ _ _ rfl Tryz.call218 _ (args2 (hd 1 _ rfl rfl rfl (aj rfl)) (hd 3 _ rfl rfl rfl (aj rfl))) (by simp) ((fZ _ _ _ _ HP.out.2.1 HP.out.1 w2).mono ?_);rintro e w3 ⟨rfl,hb⟩;exact ⟨_,rfl,rfl,hb⟩
   ·intro _ _ a w2 hB hF hd;refine aJ <| aO (bC (m:=15) (k:=16) rfl (hF.same 4 rfl) (by kernel_rfl)) ?_;exact rfl
   ·intro _ _ a w2 hB hF hd;exact aJ <| aO (bH rfl (hd 5 _ rfl rfl rfl (aj rfl)) bT rfl bE (fun i hi=> (hB.cell (p:=⟨(w.heap.size+1),16+i,none⟩) hC.lt).trans (Jg hC i hi))) rfl
   ·intro _ _ a w2 hB hF hd;refine aJ <| aO (bC (m:=15) (k:=0) rfl (hF.same 4 rfl) (by kernel_rfl)) ?_;exact rfl
   ·intro _ _ a w2 hB hF hd;exact aJ <| aO (bH rfl (hd 7 _ rfl rfl rfl (aj rfl)) bT rfl bE (fun i hi=> (hB.cell (p:=⟨(w.heap.size+1),0+i,none⟩) hC.lt).trans (FH hC i hi))) rfl
   ·intro _ _ a w2 hB hF hd;refine aJ <| aD _ _ _ rfl Tryz.call218 _ (args2 (hd 6 _ rfl rfl rfl (aj rfl)) (hd 8 _ rfl rfl rfl (aj rfl))) (by simp) ((fZ _ _ _ _ HQ.out.2.1 HQ.out.1 w2).mono ?_);rintro e w3 ⟨rfl,hb⟩;exact ⟨_,rfl,rfl,hb⟩
   ·intro _ _ a w2 hB hF hd;refine aJ <| aD _ _ _ rfl Tryz.call203 _ (args2 (hd 4 _ rfl rfl rfl (aj rfl)) (hd 9 _ rfl rfl rfl (aj rfl))) (by simp) ((bJ _ _ _ _ ((HP.out.2.1).bW HP.out.1) ((HQ.out.2.1).bW HQ.out.1) w2).mono ?_);rintro e w3 ⟨rfl,hb⟩;exact ⟨_,rfl,rfl,hb⟩
  ·refine bQ ?_;refine ⟨(fun h=> by cases h),(fun h=> by cases h),(fun h=> by cases h),(fun h=> by cases h),(fun h=> by cases h),(fun h=> by cases h),(fun h=> by cases h),(fun h=> by cases h),(fun h=> by cases h),(fun h=> by cases h),(fun h=> by cases h),?_,(fun h=> by cases h),trivial⟩
   ·exact fun _=> ⟨rfl,rfl,fun a w2 K h=> aP rfl rfl Tryz.zeroValue191 (by simp) h⟩
  ·refine bQ ?_;refine ⟨(fun _ h=> by cases h),(fun _ h=> by cases h),(fun _ h=> by cases h),(fun _ h=> by cases h),(fun _ h=> by cases h),(fun _ h=> by cases h),(fun _ h=> by cases h),(fun _ h=> by cases h),(fun _ h=> by cases h),(fun _ h=> by cases h),(fun _ h=> by cases h),(fun _ h=> by cases h),?_,trivial⟩
   ·intro p hp;obtain rfl:11=p:=fT hp;exact ⟨rfl,rfl,⟨_,rfl⟩,aj rfl,fun a w2 b K hB hF hd hx hb h=> aY rfl rfl bE hx (hd 10 _ rfl rfl rfl (aj rfl)) hb h⟩
  ·intro a w3 blk hB hF hS hv hfin bU;obtain ⟨v11,zK,SQ⟩:=hv 11 _ rfl rfl;have ha:=aI rfl rfl hF [_,_,_,_,_,_,_,_,_,_,_,_,undef] rfl ⟨hS 0 _ rfl rfl rfl,hS 1 _ rfl rfl rfl,hS 2 _ rfl rfl rfl,hS 3 _ rfl rfl rfl,hS 4 _ rfl rfl rfl,hS 5 _ rfl rfl rfl,hS 6 _ rfl rfl rfl,hS 7 _ rfl rfl rfl,hS 8 _ rfl rfl rfl,hS 9 _ rfl rfl rfl,hS 10 _ rfl rfl rfl,v11,trivial,trivial⟩;have f11:=hfin 12 _ 11 rfl rfl;simp only [puts,Act.put,dH,dI,dJ] at ha;subst ha;have RL:aH .i64 w3 (blk 11) 16 (aL (bW (g) (f)) (bW (v) (u))):=⟨_,f11⟩
   clear hS hv hfin bU hF v11 f11;replace hA:=hA.kept hB;replace hC:=hC.kept hB;replace hE:=hE.kept hB;replace hZ:=hZ.kept hB;replace kL:=kL.kept hB;obtain ⟨bbb,MV⟩:∃x,x=blk 11:=⟨_,rfl⟩
   obtain ⟨bb,hbb,Xbb,ZP⟩:∃x,x=aL (bW g f) (bW v u)/\∃N,Hid (Fe x N):=⟨_,rfl,_,(HP.out.2.1.bW HP.out.1).aL (HQ.out.2.1.bW HQ.out.1)⟩
   rw [<-hbb,←MV] at RL;rw [<-MV] at zK ⊢;have lbb:w.heap.size+4<=bbb:=jG hsz zK;have Kbb:=ak hbb;replace hbel:=hbel.trans (hB.mono hbel.size);replace hsz:=jG hsz hB.size;clear hB hbb MV;have lZ:=RL;clear RL zK SQ;go_upto_region 3 with (fail)
   refine aT (n:=77) (by kernel_rfl) (by kernel_rfl) (by kernel_rfl) rfl
    (gJ [(8,7)]) (dS [(8,7)]) (fun _=> arr .i64 16 (fun _=> 0)) (fun _=> (arr .i64 16 (aL (aL (e) (s)) (d)))) (fun _=> 191) (fun _=> 9)
    (fun ii vv _=> (match ii with | 0=> vv=.pointer (some ⟨w.heap.size,48,none⟩) | 1=> vv=.agg (arr .i64 16 (e)) | 2=> vv=.pointer (some ⟨(w.heap.size+1),48,none⟩) | 3=> vv=.agg (arr .i64 16 (s)) | 4=> vv=.agg (arr .i64 16 (aL (e) (s))) | 5=> vv=.agg (arr .i64 16 (d)) | 6=> vv=.agg (arr .i64 16 (aL (aL (e) (s)) (d))) | _=> True)) (fun _ _=> True) (fun _ _ _=> trivial) (fun _ _ _ _ _ _ _=> trivial) (fun _ _ _ _ h _=> h)
    (eT rfl) (dA rfl) ?_ ?_ ?_ ?_
   ·refine bQ ?_;refine ⟨?_,?_,?_,?_,?_,?_,?_,(fun h=> by cases h),(fun _ h=> by cases h),trivial⟩
    ·intro _ _ a w2 hB hF hd;refine aJ <| aO (bC (m:=15) (k:=48) rfl (hF.same 3 rfl) (by kernel_rfl)) ?_;exact rfl
    ·intro _ _ a w2 hB hF hd;exact aJ <| aO (bH rfl (hd 0 _ rfl rfl rfl (aj rfl)) bT rfl bE (fun i hi=> (hB.cell (p:=⟨w.heap.size,48+i,none⟩) hA.lt).trans (Uf hA i hi))) rfl
    ·intro _ _ a w2 hB hF hd;refine aJ <| aO (bC (m:=15) (k:=48) rfl (hF.same 4 rfl) (by kernel_rfl)) ?_;exact rfl
    ·intro _ _ a w2 hB hF hd;exact aJ <| aO (bH rfl (hd 2 _ rfl rfl rfl (aj rfl)) bT rfl bE (fun i hi=> (hB.cell (p:=⟨(w.heap.size+1),48+i,none⟩) hC.lt).trans (Uf hC i hi))) rfl
    ·intro _ _ a w2 hB hF hd;refine aJ <| aD _ _ _ rfl Tryz.call203 _ (args2 (hd 1 _ rfl rfl rfl (aj rfl)) (hd 3 _ rfl rfl rfl (aj rfl))) (by simp) ((bJ _ _ _ _ HP.out.2.2.2 HQ.out.2.2.2 w2).mono ?_);rintro e w3 ⟨rfl,hb⟩;exact ⟨_,rfl,rfl,hb⟩
    ·intro _ _ a w2 hB hF hd;exact aJ <| aO (aB rfl bT rfl bE (hF.same 5 rfl) (hE.below hB hE.lt)) rfl
    ·intro _ _ a w2 hB hF hd;refine aJ <| aD _ _ _ rfl Tryz.call203 _ (args2 (hd 4 _ rfl rfl rfl (aj rfl)) (hd 5 _ rfl rfl rfl (aj rfl))) (by simp) ((bJ _ _ _ _ ((HP.out.2.2.2).aL HQ.out.2.2.2) HD.out w2).mono ?_);rintro e w3 ⟨rfl,hb⟩;exact ⟨_,rfl,rfl,hb⟩
   ·refine bQ ?_;refine ⟨(fun h=> by cases h),(fun h=> by cases h),(fun h=> by cases h),(fun h=> by cases h),(fun h=> by cases h),(fun h=> by cases h),(fun h=> by cases h),?_,(fun h=> by cases h),trivial⟩
    ·exact fun _=> ⟨rfl,rfl,fun a w2 K h=> aP rfl rfl Tryz.zeroValue191 (by simp) h⟩
   ·refine bQ ?_;refine ⟨(fun _ h=> by cases h),(fun _ h=> by cases h),(fun _ h=> by cases h),(fun _ h=> by cases h),(fun _ h=> by cases h),(fun _ h=> by cases h),(fun _ h=> by cases h),(fun _ h=> by cases h),?_,trivial⟩
    ·intro p hp;obtain rfl:7=p:=fT hp;exact ⟨rfl,rfl,⟨_,rfl⟩,aj rfl,fun a w2 b K hB hF hd hx hb h=> aY rfl rfl bE hx (hd 6 _ rfl rfl rfl (aj rfl)) hb h⟩
   ·intro a w4 blk hB hF hS hv hfin bU;obtain ⟨v7,BQ,Sc⟩:=hv 7 _ rfl rfl;have ha:=aI rfl rfl hF [_,_,_,_,_,_,_,_,undef] rfl ⟨hS 0 _ rfl rfl rfl,hS 1 _ rfl rfl rfl,hS 2 _ rfl rfl rfl,hS 3 _ rfl rfl rfl,hS 4 _ rfl rfl rfl,hS 5 _ rfl rfl rfl,hS 6 _ rfl rfl rfl,v7,trivial,trivial⟩;have f7:=hfin 8 _ 7 rfl rfl;simp only [puts,Act.put,dH,dI,dJ] at ha;subst ha;have V7:aH .i64 w4 (blk 7) 16 (aL (aL (e) (s)) (d)):=⟨_,f7⟩
    clear hS hv hfin bU hF v7 f7;replace hA:=hA.kept hB;replace hC:=hC.kept hB;replace hE:=hE.kept hB;replace hZ:=hZ.kept hB;replace kL:=kL.kept hB;replace lZ:=lZ.kept hB;obtain ⟨bcc,ade⟩:∃x,x=blk 7:=⟨_,rfl⟩
    obtain ⟨cc,hcc,Xcc,Hcc⟩:∃x,x=aL (aL e s) d/\∃N,Hid (Fe x N):=⟨_,rfl,_,(HP.out.2.2.2.aL HQ.out.2.2.2).aL HD.out⟩
    rw [<-hcc,←ade] at V7;rw [<-ade] at BQ ⊢;have lcc:w.heap.size+4<=bcc:=jG hsz BQ;have Kcc:=ak hcc;replace hbel:=hbel.trans (hB.mono hbel.size);replace hsz:=jG hsz hB.size;clear hB hcc ade;have AP:=V7;clear V7 BQ Sc;go_upto_region 4 with (fail)
    refine aT (n:=77) (by kernel_rfl) (by kernel_rfl) (by kernel_rfl) rfl
     (gJ [(6,5)]) (dS [(6,5)]) (fun _=> arr .i64 16 (fun _=> 0)) (fun _=> (arr .i64 16 (aL (h) (r)))) (fun _=> 191) (fun _=> 10)
     (fun ii vv _=> (match ii with | 0=> vv=.pointer (some ⟨w.heap.size,32,none⟩) | 1=> vv=.agg (arr .i64 16 (h)) | 2=> vv=.pointer (some ⟨(w.heap.size+1),32,none⟩) | 3=> vv=.agg (arr .i64 16 (r)) | 4=> vv=.agg (arr .i64 16 (aL (h) (r))) | _=> True)) (fun _ _=> True) (fun _ _ _=> trivial) (fun _ _ _ _ _ _ _=> trivial) (fun _ _ _ _ h _=> h)
     (eT rfl) (dA rfl) ?_ ?_ ?_ ?_
    ·refine bQ ?_;refine ⟨?_,?_,?_,?_,?_,(fun h=> by cases h),(fun _ h=> by cases h),trivial⟩
     ·intro _ _ a w2 hB hF hd;refine aJ <| aO (bC (m:=15) (k:=32) rfl (hF.same 3 rfl) (by kernel_rfl)) ?_;exact rfl
     ·intro _ _ a w2 hB hF hd;exact aJ <| aO (bH rfl (hd 0 _ rfl rfl rfl (aj rfl)) bT rfl bE (fun i hi=> (hB.cell (p:=⟨w.heap.size,32+i,none⟩) hA.lt).trans (Mq hA i hi))) rfl
     ·intro _ _ a w2 hB hF hd;refine aJ <| aO (bC (m:=15) (k:=32) rfl (hF.same 4 rfl) (by kernel_rfl)) ?_;exact rfl
     ·intro _ _ a w2 hB hF hd;exact aJ <| aO (bH rfl (hd 2 _ rfl rfl rfl (aj rfl)) bT rfl bE (fun i hi=> (hB.cell (p:=⟨(w.heap.size+1),32+i,none⟩) hC.lt).trans (Mq hC i hi))) rfl
     ·intro _ _ a w2 hB hF hd;refine aJ <| aD _ _ _ rfl Tryz.call203 _ (args2 (hd 1 _ rfl rfl rfl (aj rfl)) (hd 3 _ rfl rfl rfl (aj rfl))) (by simp) ((bJ _ _ _ _ HP.out.2.2.1 HQ.out.2.2.1 w2).mono ?_);rintro e w3 ⟨rfl,hb⟩;exact ⟨_,rfl,rfl,hb⟩
    ·refine bQ ?_;refine ⟨(fun h=> by cases h),(fun h=> by cases h),(fun h=> by cases h),(fun h=> by cases h),(fun h=> by cases h),?_,(fun h=> by cases h),trivial⟩
     ·exact fun _=> ⟨rfl,rfl,fun a w2 K h=> aP rfl rfl Tryz.zeroValue191 (by simp) h⟩
    ·refine bQ ?_;refine ⟨(fun _ h=> by cases h),(fun _ h=> by cases h),(fun _ h=> by cases h),(fun _ h=> by cases h),(fun _ h=> by cases h),(fun _ h=> by cases h),?_,trivial⟩
     ·intro p hp;obtain rfl:5=p:=fT hp;exact ⟨rfl,rfl,⟨_,rfl⟩,aj rfl,fun a w2 b K hB hF hd hx hb h=> aY rfl rfl bE hx (hd 4 _ rfl rfl rfl (aj rfl)) hb h⟩
    ·intro a w5 blk hB hF hS hv hfin bU;obtain ⟨v5,uU,Dl⟩:=hv 5 _ rfl rfl;have ha:=aI rfl rfl hF [_,_,_,_,_,_,undef] rfl ⟨hS 0 _ rfl rfl rfl,hS 1 _ rfl rfl rfl,hS 2 _ rfl rfl rfl,hS 3 _ rfl rfl rfl,hS 4 _ rfl rfl rfl,v5,trivial,trivial⟩;have f5:=hfin 6 _ 5 rfl rfl;simp only [puts,Act.put,dH,dI,dJ] at ha;subst ha;have V5:aH .i64 w5 (blk 5) 16 (aL (h) (r)):=⟨_,f5⟩
     clear hS hv hfin bU hF v5 f5;have aar:=kL.lt;have aaq:=lZ.lt;have aap:=AP.lt;replace hA:=hA.kept hB;replace hC:=hC.kept hB;replace hE:=hE.kept hB;replace hZ:=hZ.kept hB;replace kL:=kL.kept hB;replace lZ:=lZ.kept hB;replace AP:=AP.kept hB;obtain ⟨ZH,ada⟩:∃x,x=blk 5:=⟨_,rfl⟩
     obtain ⟨dd,hdd,Xdd,Hdd⟩:∃x,x=aL h r/\∃N,Hid (Fe x N):=⟨_,rfl,_,HP.out.2.2.1.aL HQ.out.2.2.1⟩
     rw [<-hdd,←ada] at V5;rw [<-ada] at uU ⊢;have ldd:w.heap.size+4<=ZH:=jG hsz uU;have Kdd:=ak hdd;have zaa:baa<ZH:=uK aar uU;have zbb:bbb<ZH:=uK aaq uU;have zcc:bcc<ZH:=uK aap uU;clear aar aaq aap;replace hbel:=hbel.trans (hB.mono hbel.size);replace hsz:=jG hsz hB.size;clear hB hdd ada;have QH:=V5;clear V5 uU Dl;go_upto_region 5 with (fail)
     refine bV (n:=77) (fun i=> i==3) (by kernel_rfl) (by kernel_rfl) (by kernel_rfl) (by kernel_rfl) rfl
      (fun ii vv _=> (match ii with | 0 | 1=> vv=.agg (arr .i64 16 (dd)) | 2=> vv=.agg (arr .i64 16 (bW (dd) (dd))) | _=> True))
      (fun w w'=> Below w.heap.size w w') (fun _ _ h=> h) (fun _ _ _ _ h _=> h)
      (fun _=> ZH) (fun _=> (arr .i64 16 (dd))) (fun _=> (arr .i64 16 (bW (dd) (dd))))
      (by intro i j _ _ hpi iL hne;simp only [beq_iff_eq] at hpi iL;omega)
      (by intro i _ hpi;exact (QH).row)
      ?_ ?_ ?_
     ·refine bQ ?_;refine ⟨?_,?_,?_,(aK),trivial⟩
      ·intro _ a w2 hB hF hd;exact aJ <| aO (aB rfl bT rfl bE (hF.same 10 rfl) (QH.below hB QH.lt)) rfl
      ·intro _ a w2 hB hF hd;exact aJ <| aO (aB rfl bT rfl bE (hF.same 10 rfl) (QH.below hB QH.lt)) rfl
      ·intro _ a w2 hB hF hd;refine aJ <| aD _ _ _ rfl Tryz.call218 _ (args2 (hd 0 _ rfl rfl (aj rfl)) (hd 1 _ rfl rfl (aj rfl))) (by simp) ((fZ _ _ _ _ Hdd.out Hdd.out w2).mono ?_);rintro e w3 ⟨rfl,hb⟩;exact ⟨_,rfl,rfl,hb⟩
     ·refine bQ ?_;refine ⟨(aK),(aK),(aK),?_,trivial⟩
      ·intro _ a w1 w2 K hB hF hS hr hK;exact aW 191 _ _ rfl .i64 (ZH) 16 (dd) (bW (dd) (dd)) bE (hF.same 10 rfl) (hS 2 _ rfl rfl) hr hK
     ·intro a wf w6 hB hF hS hfil;have other:∀{k:IntKind} {qb n:Nat} {f:Nat->Int},qb≠ZH->aH k wf qb n f->aH k w6 qb n f:=fun {k qb n f} e0 hA=> hfil.arr (by intro i _ hpi;simp only [jY,beq_iff_eq] at hpi;subst hpi<;> ((try simp only []);(try dsimp only);omega)) hA;have dx:∀{B:Nat} {w0:World},B<=ZH->Below B w0 wf->Below B w0 w6:=fun {B w0} e0 hA=> hfil.below (by intro i _ hpi;simp only [jY,beq_iff_eq] at hpi;subst hpi<;> ((try simp only []);(try dsimp only);omega)) hA;have V3:aH .i64 w6 (ZH) 16 (bW (dd) (dd)):=hfil.at 3 (by decide) rfl;have oL:=hfil.size;clear hfil;have ha:=aI rfl rfl hF [_,_,_,undef] rfl ⟨hS 0 _ rfl rfl,hS 1 _ rfl rfl,hS 2 _ rfl rfl,trivial,trivial⟩;simp only [puts,Act.put,dH,dI,dJ] at ha;subst ha;clear hS hF;replace hA:=other (by omega) (hA.kept hB);replace hC:=other (by omega) (hC.kept hB);replace hE:=other (by omega) (hE.kept hB);replace hZ:=other (by omega) (hZ.kept hB);replace kL:=other (by omega) (kL.kept hB);replace lZ:=other (by omega) (lZ.kept hB);replace AP:=other (by omega) (AP.kept hB);replace hbel:=dx (by omega) (hbel.trans (hB.mono hbel.size));obtain ⟨d2,hd2,Xd2,Hd2⟩:∃x,x=bW dd dd/\∃N,Hid (Fe x N):=⟨_,rfl,_,Hdd.out.bW Hdd.out⟩
      rw [<-hd2] at V3;have Kd2:=ak hd2;have QJ:=V3;replace hsz:w.heap.size+4<=w6.heap.size:=by have:=hZ.lt;omega
      clear hB other dx oL QH V3 hd2;go_upto_region 6 with (fail)
      refine aT (n:=77) (by kernel_rfl) (by kernel_rfl) (by kernel_rfl) rfl
       (gJ [(16,12),(17,13),(18,14),(19,15)]) (dS [(16,12),(17,13),(18,14),(19,15)]) (fun _=> arr .i64 16 (fun _=> 0)) (fun i=> match i with | 12=> (arr .i64 16 (eG (bb) (aa))) | 13=> (arr .i64 16 (eG (d2) (cc))) | 14=> (arr .i64 16 (bW (d2) (cc))) | 15=> (arr .i64 16 (bW (bb) (aa))) | _=> #[]) (fun _=> 191) (fun i=> match i with | 12=> 11 | 13=> 12 | 14=> 13 | 15=> 14 | _=> 0)
       (fun ii vv _=> (match ii with | 0 | 9=> vv=.agg (arr .i64 16 (bb)) | 1 | 10=> vv=.agg (arr .i64 16 (aa)) | 2=> vv=.agg (arr .i64 16 (eG (bb) (aa))) | 3 | 6=> vv=.agg (arr .i64 16 (d2)) | 4 | 7=> vv=.agg (arr .i64 16 (cc)) | 5=> vv=.agg (arr .i64 16 (eG (d2) (cc))) | 8=> vv=.agg (arr .i64 16 (bW (d2) (cc))) | 11=> vv=.agg (arr .i64 16 (bW (bb) (aa))) | _=> True)) (fun _ _=> True) (fun _ _ _=> trivial) (fun _ _ _ _ _ _ _=> trivial) (fun _ _ _ _ h _=> h)
       (eT rfl) (dA rfl) ?_ ?_ ?_ ?_
      ·refine bQ ?_;refine ⟨?_,?_,?_,?_,?_,?_,?_,?_,?_,?_,?_,?_,(fun h=> by cases h),(fun h=> by cases h),(fun h=> by cases h),(fun h=> by cases h),(fun _ h=> by cases h),(fun _ h=> by cases h),(fun _ h=> by cases h),(fun _ h=> by cases h),trivial⟩
       ·intro _ _ a w2 hB hF hd;exact aJ <| aO (aB rfl bT rfl bE (hF.same 8 rfl) (lZ.below hB lZ.lt)) rfl
       ·intro _ _ a w2 hB hF hd;exact aJ <| aO (aB rfl bT rfl bE (hF.same 7 rfl) (kL.below hB kL.lt)) rfl
       ·intro _ _ a w2 hB hF hd;refine aJ <| aD _ _ _ rfl Tryz.call244 _ (args2 (hd 0 _ rfl rfl rfl (aj rfl)) (hd 1 _ rfl rfl rfl (aj rfl))) (by simp) ((iU _ _ _ _ ZP.out Sn.out w2).mono ?_);rintro e w3 ⟨rfl,hb⟩;exact ⟨_,rfl,rfl,hb⟩
       ·intro _ _ a w2 hB hF hd;exact aJ <| aO (aB rfl bT rfl bE (hF.same 10 rfl) (QJ.below hB QJ.lt)) rfl
       ·intro _ _ a w2 hB hF hd;exact aJ <| aO (aB rfl bT rfl bE (hF.same 9 rfl) (AP.below hB AP.lt)) rfl
       ·intro _ _ a w2 hB hF hd;refine aJ <| aD _ _ _ rfl Tryz.call244 _ (args2 (hd 3 _ rfl rfl rfl (aj rfl)) (hd 4 _ rfl rfl rfl (aj rfl))) (by simp) ((iU _ _ _ _ Hd2.out Hcc.out w2).mono ?_);rintro e w3 ⟨rfl,hb⟩;exact ⟨_,rfl,rfl,hb⟩
       ·intro _ _ a w2 hB hF hd;exact aJ <| aO (aB rfl bT rfl bE (hF.same 10 rfl) (QJ.below hB QJ.lt)) rfl
       ·intro _ _ a w2 hB hF hd;exact aJ <| aO (aB rfl bT rfl bE (hF.same 9 rfl) (AP.below hB AP.lt)) rfl
       ·intro _ _ a w2 hB hF hd;refine aJ <| aD _ _ _ rfl Tryz.call218 _ (args2 (hd 6 _ rfl rfl rfl (aj rfl)) (hd 7 _ rfl rfl rfl (aj rfl))) (by simp) ((fZ _ _ _ _ Hd2.out Hcc.out w2).mono ?_);rintro e w3 ⟨rfl,hb⟩;exact ⟨_,rfl,rfl,hb⟩
       ·intro _ _ a w2 hB hF hd;exact aJ <| aO (aB rfl bT rfl bE (hF.same 8 rfl) (lZ.below hB lZ.lt)) rfl
       ·intro _ _ a w2 hB hF hd;exact aJ <| aO (aB rfl bT rfl bE (hF.same 7 rfl) (kL.below hB kL.lt)) rfl
       ·intro _ _ a w2 hB hF hd;refine aJ <| aD _ _ _ rfl Tryz.call218 _ (args2 (hd 9 _ rfl rfl rfl (aj rfl)) (hd 10 _ rfl rfl rfl (aj rfl))) (by simp) ((fZ _ _ _ _ ZP.out Sn.out w2).mono ?_);rintro e w3 ⟨rfl,hb⟩;exact ⟨_,rfl,rfl,hb⟩
      ·refine bQ ?_;refine ⟨(fun h=> by cases h),(fun h=> by cases h),(fun h=> by cases h),(fun h=> by cases h),(fun h=> by cases h),(fun h=> by cases h),(fun h=> by cases h),(fun h=> by cases h),(fun h=> by cases h),(fun h=> by cases h),(fun h=> by cases h),(fun h=> by cases h),?_,?_,?_,?_,(fun h=> by cases h),(fun h=> by cases h),(fun h=> by cases h),(fun h=> by cases h),trivial⟩
       ·exact fun _=> ⟨rfl,rfl,fun a w2 K h=> aP rfl rfl Tryz.zeroValue191 (by simp) h⟩
       ·exact fun _=> ⟨rfl,rfl,fun a w2 K h=> aP rfl rfl Tryz.zeroValue191 (by simp) h⟩
       ·exact fun _=> ⟨rfl,rfl,fun a w2 K h=> aP rfl rfl Tryz.zeroValue191 (by simp) h⟩
       ·exact fun _=> ⟨rfl,rfl,fun a w2 K h=> aP rfl rfl Tryz.zeroValue191 (by simp) h⟩
      ·refine bQ ?_;refine ⟨(fun _ h=> by cases h),(fun _ h=> by cases h),(fun _ h=> by cases h),(fun _ h=> by cases h),(fun _ h=> by cases h),(fun _ h=> by cases h),(fun _ h=> by cases h),(fun _ h=> by cases h),(fun _ h=> by cases h),(fun _ h=> by cases h),(fun _ h=> by cases h),(fun _ h=> by cases h),(fun _ h=> by cases h),(fun _ h=> by cases h),(fun _ h=> by cases h),(fun _ h=> by cases h),?_,?_,?_,?_,trivial⟩
       ·intro p hp;obtain rfl:12=p:=fT hp;exact ⟨rfl,rfl,⟨_,rfl⟩,aj rfl,fun a w2 b K hB hF hd hx hb h=> aY rfl rfl bE hx (hd 2 _ rfl rfl rfl (aj rfl)) hb h⟩
       ·intro p hp;obtain rfl:13=p:=fT hp;exact ⟨rfl,rfl,⟨_,rfl⟩,aj rfl,fun a w2 b K hB hF hd hx hb h=> aY rfl rfl bE hx (hd 5 _ rfl rfl rfl (aj rfl)) hb h⟩
       ·intro p hp;obtain rfl:14=p:=fT hp;exact ⟨rfl,rfl,⟨_,rfl⟩,aj rfl,fun a w2 b K hB hF hd hx hb h=> aY rfl rfl bE hx (hd 8 _ rfl rfl rfl (aj rfl)) hb h⟩
       ·intro p hp;obtain rfl:15=p:=fT hp;exact ⟨rfl,rfl,⟨_,rfl⟩,aj rfl,fun a w2 b K hB hF hd hx hb h=> aY rfl rfl bE hx (hd 11 _ rfl rfl rfl (aj rfl)) hb h⟩
      ·intro a w7 blk hB hF hS hv hfin bU;obtain ⟨v12,abq,aiW⟩:=hv 12 _ rfl rfl;obtain ⟨v13,abp,aiV⟩:=hv 13 _ rfl rfl;obtain ⟨v14,abo,aiU⟩:=hv 14 _ rfl rfl;obtain ⟨v15,abn,aiT⟩:=hv 15 _ rfl rfl;have ha:=aI rfl rfl hF [_,_,_,_,_,_,_,_,_,_,_,_,_,_,_,_,undef,undef,undef,undef] rfl ⟨hS 0 _ rfl rfl rfl,hS 1 _ rfl rfl rfl,hS 2 _ rfl rfl rfl,hS 3 _ rfl rfl rfl,hS 4 _ rfl rfl rfl,hS 5 _ rfl rfl rfl,hS 6 _ rfl rfl rfl,hS 7 _ rfl rfl rfl,hS 8 _ rfl rfl rfl,hS 9 _ rfl rfl rfl,hS 10 _ rfl rfl rfl,hS 11 _ rfl rfl rfl,v12,v13,v14,v15,trivial,trivial,trivial,trivial,trivial⟩;have f12:=hfin 16 _ 12 rfl rfl;have f13:=hfin 17 _ 13 rfl rfl;have f14:=hfin 18 _ 14 rfl rfl;have f15:=hfin 19 _ 15 rfl rfl;have akk:=bU 12 13 _ _ rfl rfl rfl rfl (by decide);have akj:=bU 12 14 _ _ rfl rfl rfl rfl (by decide);have aki:=bU 12 15 _ _ rfl rfl rfl rfl (by decide);have akh:=bU 13 14 _ _ rfl rfl rfl rfl (by decide);have akg:=bU 13 15 _ _ rfl rfl rfl rfl (by decide);have akf:=bU 14 15 _ _ rfl rfl rfl rfl (by decide);simp only [puts,Act.put,dH,dI,dJ] at ha;subst ha;have V12:aH .i64 w7 (blk 12) 16 (eG (bb) (aa)):=⟨_,f12⟩
       have V13:aH .i64 w7 (blk 13) 16 (eG (d2) (cc)):=⟨_,f13⟩
       have V14:aH .i64 w7 (blk 14) 16 (bW (d2) (cc)):=⟨_,f14⟩
       have V15:aH .i64 w7 (blk 15) 16 (bW (bb) (aa)):=⟨_,f15⟩
       clear hS hv hfin bU hF v12 v13 v14 v15 f12 f13 f14 f15;replace hA:=hA.kept hB;replace hC:=hC.kept hB;replace hE:=hE.kept hB;replace hZ:=hZ.kept hB;replace kL:=kL.kept hB;replace lZ:=lZ.kept hB;replace AP:=AP.kept hB;replace QJ:=QJ.kept hB;obtain ⟨bee,MU⟩:∃x,x=blk 12:=⟨_,rfl⟩
       obtain ⟨ee,hee,Xee,ZO⟩:∃x,x=eG bb aa/\∃N,Hid (Fe x N):=⟨_,rfl,_,ZP.out.eG Sn.out⟩
       rw [<-hee,←MU] at V12;rw [<-MU] at abq ⊢;have lee:w.heap.size+4<=bee:=jG hsz abq;have Kee:=ak hee;obtain ⟨bff,acY⟩:∃x,x=blk 13:=⟨_,rfl⟩
       obtain ⟨ff,hff,Xff,Hff⟩:∃x,x=eG d2 cc/\∃N,Hid (Fe x N):=⟨_,rfl,_,Hd2.out.eG Hcc.out⟩
       rw [<-hff,←acY] at V13;rw [<-acY] at abp ⊢;have lff:w.heap.size+4<=bff:=jG hsz abp;have Kff:=ak hff;obtain ⟨bgg,acX⟩:∃x,x=blk 14:=⟨_,rfl⟩
       obtain ⟨gg,hgg,Xgg,Hgg⟩:∃x,x=bW d2 cc/\∃N,Hid (Fe x N):=⟨_,rfl,_,Hd2.out.bW Hcc.out⟩
       rw [<-hgg,←acX] at V14;rw [<-acX] at abo ⊢;have lgg:w.heap.size+4<=bgg:=jG hsz abo;have Kgg:=ak hgg;obtain ⟨bhh,acW⟩:∃x,x=blk 15:=⟨_,rfl⟩
       obtain ⟨hh,hhh,Xhh,Hhh⟩:∃x,x=bW bb aa/\∃N,Hid (Fe x N):=⟨_,rfl,_,ZP.out.bW Sn.out⟩
       rw [<-hhh,←acW] at V15;rw [<-acW] at abn ⊢;have lhh:w.heap.size+4<=bhh:=jG hsz abn;have Khh:=ak hhh;replace hbel:=hbel.trans (hB.mono hbel.size);replace hsz:=jG hsz hB.size;clear hB hee MU hff acY hgg acX hhh acW;have xk:=V12;clear V12 abq aiW;have Zh:=V13;clear V13 abp aiV;have Zg:=V14;clear V14 abo aiU;have Zf:=V15;clear V15 abn aiT;go_upto_region 7 with (fail)
       refine bV (n:=77) (fun i=> i==13) (by kernel_rfl) (by kernel_rfl) (by kernel_rfl) (by kernel_rfl) rfl
        (fun ii vv _=> (match ii with | 0 | 9=> vv=.agg (arr .i64 16 (ee)) | 1 | 6=> vv=.agg (arr .i64 16 (ff)) | 2=> vv=.agg (arr .i64 16 (aL (ee) (ff))) | 3 | 7=> vv=.agg (arr .i64 16 (gg)) | 4 | 10=> vv=.agg (arr .i64 16 (hh)) | 5=> vv=.agg (arr .i64 16 (aL (gg) (hh))) | 8=> vv=.agg (arr .i64 16 (aL (ff) (gg))) | 11=> vv=.agg (arr .i64 16 (aL (ee) (hh))) | 12=> vv=.agg (arr .i64 64 (pt (aL (ee) (ff)) (aL (gg) (hh)) (aL (ff) (gg)) (aL (ee) (hh)))) | _=> True))
        (fun w w'=> Below w.heap.size w w') (fun _ _ h=> h) (fun _ _ _ _ h _=> h)
        (fun _=> (w.heap.size+3)) (fun _=> (arr .i64 64 (fun _=> 0))) (fun _=> (arr .i64 64 (pt (aL (ee) (ff)) (aL (gg) (hh)) (aL (ff) (gg)) (aL (ee) (hh)))))
        (by intro i j _ _ hpi iL hne;simp only [beq_iff_eq] at hpi iL;omega)
        (by intro i _ hpi;exact (hZ).row)
        ?_ ?_ ?_
       ·refine bQ ?_;refine ⟨?_,?_,?_,?_,?_,?_,?_,?_,?_,?_,?_,?_,?_,(aK),trivial⟩
        ·intro _ a w2 hB hF hd;exact aJ <| aO (aB rfl bT rfl bE (hF.same 11 rfl) (xk.below hB xk.lt)) rfl
        ·intro _ a w2 hB hF hd;exact aJ <| aO (aB rfl bT rfl bE (hF.same 12 rfl) (Zh.below hB Zh.lt)) rfl
        ·intro _ a w2 hB hF hd;refine aJ <| aD _ _ _ rfl Tryz.call203 _ (args2 (hd 0 _ rfl rfl (aj rfl)) (hd 1 _ rfl rfl (aj rfl))) (by simp) ((bJ _ _ _ _ ZO.out Hff.out w2).mono ?_);rintro e w3 ⟨rfl,hb⟩;exact ⟨_,rfl,rfl,hb⟩
        ·intro _ a w2 hB hF hd;exact aJ <| aO (aB rfl bT rfl bE (hF.same 13 rfl) (Zg.below hB Zg.lt)) rfl
        ·intro _ a w2 hB hF hd;exact aJ <| aO (aB rfl bT rfl bE (hF.same 14 rfl) (Zf.below hB Zf.lt)) rfl
        ·intro _ a w2 hB hF hd;refine aJ <| aD _ _ _ rfl Tryz.call203 _ (args2 (hd 3 _ rfl rfl (aj rfl)) (hd 4 _ rfl rfl (aj rfl))) (by simp) ((bJ _ _ _ _ Hgg.out Hhh.out w2).mono ?_);rintro e w3 ⟨rfl,hb⟩;exact ⟨_,rfl,rfl,hb⟩
        ·intro _ a w2 hB hF hd;exact aJ <| aO (aB rfl bT rfl bE (hF.same 12 rfl) (Zh.below hB Zh.lt)) rfl
        ·intro _ a w2 hB hF hd;exact aJ <| aO (aB rfl bT rfl bE (hF.same 13 rfl) (Zg.below hB Zg.lt)) rfl
        ·intro _ a w2 hB hF hd;refine aJ <| aD _ _ _ rfl Tryz.call203 _ (args2 (hd 6 _ rfl rfl (aj rfl)) (hd 7 _ rfl rfl (aj rfl))) (by simp) ((bJ _ _ _ _ Hff.out Hgg.out w2).mono ?_);rintro e w3 ⟨rfl,hb⟩;exact ⟨_,rfl,rfl,hb⟩
        ·intro _ a w2 hB hF hd;exact aJ <| aO (aB rfl bT rfl bE (hF.same 11 rfl) (xk.below hB xk.lt)) rfl
        ·intro _ a w2 hB hF hd;exact aJ <| aO (aB rfl bT rfl bE (hF.same 14 rfl) (Zf.below hB Zf.lt)) rfl
        ·intro _ a w2 hB hF hd;refine aJ <| aD _ _ _ rfl Tryz.call203 _ (args2 (hd 9 _ rfl rfl (aj rfl)) (hd 10 _ rfl rfl (aj rfl))) (by simp) ((bJ _ _ _ _ ZO.out Hhh.out w2).mono ?_);rintro e w3 ⟨rfl,hb⟩;exact ⟨_,rfl,rfl,hb⟩
        ·intro _ a w2 hB hF hd;exact aJ <| aO (dL rfl (by simp only [uG,List.map_cons,List.map_nil,show a.eval (Operand.tmp 66)=.agg (arr .i64 16 (aL (ee) (ff))) from (hd 2 _ rfl rfl (aj rfl)),show a.eval (Operand.tmp 69)=.agg (arr .i64 16 (aL (gg) (hh))) from (hd 5 _ rfl rfl (aj rfl)),show a.eval (Operand.tmp 72)=.agg (arr .i64 16 (aL (ff) (gg))) from (hd 8 _ rfl rfl (aj rfl)),show a.eval (Operand.tmp 75)=.agg (arr .i64 16 (aL (ee) (hh))) from (hd 11 _ rfl rfl (aj rfl))];exact Bo _ _ _ _ _)) rfl
       ·refine bQ ?_;refine ⟨(aK),(aK),(aK),(aK),(aK),(aK),(aK),(aK),(aK),(aK),(aK),(aK),(aK),?_,trivial⟩
        ·intro _ a w1 w2 K hB hF hS hr hK;exact aW 193 _ _ rfl .i64 ((w.heap.size+3)) 64 (fun _=> 0) (pt (aL (ee) (ff)) (aL (gg) (hh)) (aL (ff) (gg)) (aL (ee) (hh))) Tryz.size193 (hF.same 6 rfl) (hS 12 _ rfl rfl) hr hK
       ·intro a wf w8 hB hF hS hfil;have other:∀{k:IntKind} {qb n:Nat} {f:Nat->Int},qb≠(w.heap.size+3)->aH k wf qb n f->aH k w8 qb n f:=fun {k qb n f} e0 hA=> hfil.arr (by intro i _ hpi;simp only [jY,beq_iff_eq] at hpi;subst hpi<;> ((try simp only []);(try dsimp only);omega)) hA;have dx:∀{B:Nat} {w0:World},B<=(w.heap.size+3)->Below B w0 wf->Below B w0 w8:=fun {B w0} e0 hA=> hfil.below (by intro i _ hpi;simp only [jY,beq_iff_eq] at hpi;subst hpi<;> ((try simp only []);(try dsimp only);omega)) hA;have V13:aH .i64 w8 ((w.heap.size+3)) 64 (pt (aL (ee) (ff)) (aL (gg) (hh)) (aL (ff) (gg)) (aL (ee) (hh))):=hfil.at 13 (by decide) rfl;have oL:=hfil.size;clear hfil;have ha:=aI rfl rfl hF [_,_,_,_,_,_,_,_,_,_,_,_,_,undef] rfl ⟨hS 0 _ rfl rfl,hS 1 _ rfl rfl,hS 2 _ rfl rfl,hS 3 _ rfl rfl,hS 4 _ rfl rfl,hS 5 _ rfl rfl,hS 6 _ rfl rfl,hS 7 _ rfl rfl,hS 8 _ rfl rfl,hS 9 _ rfl rfl,hS 10 _ rfl rfl,hS 11 _ rfl rfl,hS 12 _ rfl rfl,trivial,trivial⟩;simp only [puts,Act.put,dH,dI,dJ] at ha;subst ha;clear hS hF;have hb:=dx (by omega) (hbel.trans (hB.mono hbel.size));go_wp2;have hfin:pt (aL ee ff) (aL gg hh) (aL ff gg) (aL ee hh)=pt (sumX f g h e u v r s d) (Il f g h e u v r s d) (sumZ f g h e u v r s d) (Im f g h e u v r s d):=by
         rw [Kee.out,Kff.out,Kgg.out,Khh.out,Kd2.out,Kdd.out,Kcc.out,Kbb.out,Kaa.out];rfl
        rw [hfin] at V13;exact bodyPost_ret (cO rfl _ _ .i64 (w.heap.size+3) 64 _ rfl V13 uH rfl Tryz.size193) rfl ⟨rfl,hb⟩
def yV:Nat->Int:=bW iG iG
theorem OO:Fe yV (dN+dN):=jr.bW jr
theorem Tc:toF (dN+dN)=dE+dE:=by rw [fA,LJ]
theorem Qg (f g h e u v r s:Nat->Int) (X Y Z T U V W S:Int) (hp:rP f g h e X Y Z T) (hq:rP u v r s U V W S) (w:World):
  Calls Tryz.prog 159 #[Pt f g h e,Pt u v r s] w fun e_ w'=> e_=.returned (Pt (sumX f g h e u v r s yV) (Il f g h e u v r s yV) (sumZ f g h e u v r s yV) (Im f g h e u v r s yV))/\Below w.heap.size w w':=by
 have HP:=ak hp;have HQ:=ak hq;clear hp hq;unfold Pt
 go_enter Tryz.func159,Tryz.ntmps159
 go_upto_region 1 with (fail)
 refine aG (fun w1=> aH .i64 w1 w.heap.size 64 (pt f g h e)/\aH .i64 w1 (w.heap.size+1) 64 (pt u v r s)/\aH .i64 w1 (w.heap.size+2) 64 (fun _=> 0)/\Below w.heap.size w w1)
  ⟨.alloc (.alloc (bG rfl rfl) _) _,.alloc (bG (by first | omega | (simp<;> omega)) rfl) _,bG (by first | omega | (simp<;> omega)) (by rfl),(((bM _ _).alloc (bB _) _).alloc (by first | omega | (simp<;> omega)) _).alloc (by first | omega | (simp<;> omega)) _⟩ ?_
 rintro w1 ⟨hA,hC,hZ,hbel⟩
 refine aT (n:=13) (by kernel_rfl) (by kernel_rfl) (by kernel_rfl) rfl
  (gJ [(2,1)]) (dS [(2,1)]) (fun _=> arr .i64 16 (fun _=> 0)) (fun _=> (arr .i64 16 (iG))) (fun _=> 191) (fun _=> 5)
  (fun ii vv _=> (match ii with | 0=> vv=.agg (arr .i64 16 (iG)) | _=> True)) (fun _ _=> True) (fun _ _ _=> trivial) (fun _ _ _ _ _ _ _=> trivial) (fun _ _ _ _ h _=> h)
  (eT rfl) (dA rfl) ?_ ?_ ?_ ?_
 ·refine bQ ?_;refine ⟨?_,(fun h=> by cases h),(fun _ h=> by cases h),trivial⟩
  ·intro _ _ a w2 hB hF hd;refine aJ <| aD _ _ _ rfl Tryz.call217 _ pz (by simp) ((qV w2).mono ?_);rintro e w3 ⟨rfl,hb⟩;exact ⟨_,rfl,rfl,hb⟩
 ·refine bQ ?_;refine ⟨(fun h=> by cases h),?_,(fun h=> by cases h),trivial⟩
  ·exact fun _=> ⟨rfl,rfl,fun a w2 K h=> aP rfl rfl Tryz.zeroValue191 (by simp) h⟩
 ·refine bQ ?_;refine ⟨(fun _ h=> by cases h),(fun _ h=> by cases h),?_,trivial⟩
  ·intro p hp;obtain rfl:1=p:=fT hp;exact ⟨rfl,rfl,⟨_,rfl⟩,aj rfl,fun a w2 b K hB hF hd hx hb h=> aY rfl rfl bE hx (hd 0 _ rfl rfl rfl (aj rfl)) hb h⟩
 ·intro a w2 blk hB hF hS hv hfin bU;obtain ⟨v1,v1l,v1u⟩:=hv 1 _ rfl rfl;have ha:=aI rfl rfl hF [_,_,undef] rfl ⟨hS 0 _ rfl rfl rfl,v1,trivial,trivial⟩;have f1:=hfin 2 _ 1 rfl rfl;simp only [puts,Act.put,dH,dI,dJ] at ha;subst ha;have V1:aH .i64 w2 (blk 1) 16 (iG):=⟨_,f1⟩
  clear hS hv hfin bU hF v1 f1;replace hA:=hA.kept hB;replace hC:=hC.kept hB;replace hZ:=hZ.kept hB;replace hbel:=hbel.trans (hB.mono hbel.size);obtain ⟨x,hx⟩:∃x,x=blk 1:=⟨_,rfl⟩
  rw [<-hx] at V1 ⊢;have h1:=V1;clear hB V1 hx;go_upto_region 2 with (fail)
  refine bV (n:=13) (fun i=> i==6) (by kernel_rfl) (by kernel_rfl) (by kernel_rfl) (by kernel_rfl) rfl
   (fun ii vv _=> (match ii with | 0=> vv=.agg (arr .i64 64 (pt f g h e)) | 1=> vv=.agg (arr .i64 64 (pt u v r s)) | 2 | 3=> vv=.agg (arr .i64 16 (iG)) | 4=> vv=.agg (arr .i64 16 (yV)) | 5=> vv=.agg (arr .i64 64 (pt (sumX (f) (g) (h) (e) (u) (v) (r) (s) (yV)) (Il (f) (g) (h) (e) (u) (v) (r) (s) (yV)) (sumZ (f) (g) (h) (e) (u) (v) (r) (s) (yV)) (Im (f) (g) (h) (e) (u) (v) (r) (s) (yV)))) | _=> True))
   (fun w w'=> Below w.heap.size w w') (fun _ _ h=> h) (fun _ _ _ _ h _=> h)
   (fun _=> (w.heap.size+2)) (fun _=> (arr .i64 64 (fun _=> 0))) (fun _=> (arr .i64 64 (pt (sumX (f) (g) (h) (e) (u) (v) (r) (s) (yV)) (Il (f) (g) (h) (e) (u) (v) (r) (s) (yV)) (sumZ (f) (g) (h) (e) (u) (v) (r) (s) (yV)) (Im (f) (g) (h) (e) (u) (v) (r) (s) (yV)))))
   (by intro i j _ _ hpi iL hne;simp only [beq_iff_eq] at hpi iL;omega)
   (by intro i _ hpi;exact (hZ).row)
   ?_ ?_ ?_
  ·refine bQ ?_;refine ⟨?_,?_,?_,?_,?_,?_,(aK),trivial⟩
   ·intro _ a w2 hB hF hd;exact aJ <| aO (aB rfl uH rfl Tryz.size193 (hF.same 2 rfl) (hA.below hB hA.lt)) rfl
   ·intro _ a w2 hB hF hd;exact aJ <| aO (aB rfl uH rfl Tryz.size193 (hF.same 3 rfl) (hC.below hB hC.lt)) rfl
   ·intro _ a w2 hB hF hd;exact aJ <| aO (aB rfl bT rfl bE (hF.same 5 rfl) (h1.below hB h1.lt)) rfl
   ·intro _ a w2 hB hF hd;exact aJ <| aO (aB rfl bT rfl bE (hF.same 5 rfl) (h1.below hB h1.lt)) rfl
   ·intro _ a w2 hB hF hd;refine aJ <| aD _ _ _ rfl Tryz.call218 _ (args2 (hd 2 _ rfl rfl (aj rfl)) (hd 3 _ rfl rfl (aj rfl))) (by simp) ((fZ _ _ _ _ jr jr w2).mono ?_);rintro e w3 ⟨rfl,hb⟩;exact ⟨_,rfl,rfl,hb⟩
   ·intro _ a w2 hB hF hd;refine aJ <| aD _ _ _ rfl Tryz.call221 _ (tY (hd 0 _ rfl rfl (aj rfl)) (hd 1 _ rfl rfl (aj rfl)) (hd 4 _ rfl rfl (aj rfl))) (by simp) ((DT _ _ _ _ _ _ _ _ _ _ _ _ _ _ _ _ _ _ HP.out HQ.out OO w2).mono ?_);rintro e w3 ⟨rfl,hb⟩;exact ⟨_,rfl,rfl,hb⟩
  ·refine bQ ?_;refine ⟨(aK),(aK),(aK),(aK),(aK),(aK),?_,trivial⟩
   ·intro _ a w1 w2 K hB hF hS hr hK;exact aW 193 _ _ rfl .i64 ((w.heap.size+2)) 64 (fun _=> 0) (pt (sumX (f) (g) (h) (e) (u) (v) (r) (s) (yV)) (Il (f) (g) (h) (e) (u) (v) (r) (s) (yV)) (sumZ (f) (g) (h) (e) (u) (v) (r) (s) (yV)) (Im (f) (g) (h) (e) (u) (v) (r) (s) (yV))) Tryz.size193 (hF.same 4 rfl) (hS 5 _ rfl rfl) hr hK
  ·intro a wf w3 hB hF hS hfil;have other:∀{k:IntKind} {qb n:Nat} {f:Nat->Int},qb≠(w.heap.size+2)->aH k wf qb n f->aH k w3 qb n f:=fun {k qb n f} e0 hA=> hfil.arr (by intro i _ hpi;simp only [jY,beq_iff_eq] at hpi;subst hpi<;> ((try simp only []);(try dsimp only);omega)) hA;have dx:∀{B:Nat} {w0:World},B<=(w.heap.size+2)->Below B w0 wf->Below B w0 w3:=fun {B w0} e0 hA=> hfil.below (by intro i _ hpi;simp only [jY,beq_iff_eq] at hpi;subst hpi<;> ((try simp only []);(try dsimp only);omega)) hA;have V6:aH .i64 w3 ((w.heap.size+2)) 64 (pt (sumX (f) (g) (h) (e) (u) (v) (r) (s) (yV)) (Il (f) (g) (h) (e) (u) (v) (r) (s) (yV)) (sumZ (f) (g) (h) (e) (u) (v) (r) (s) (yV)) (Im (f) (g) (h) (e) (u) (v) (r) (s) (yV))):=hfil.at 6 (by decide) rfl;have oL:=hfil.size;clear hfil;have ha:=aI rfl rfl hF [_,_,_,_,_,_,undef] rfl ⟨hS 0 _ rfl rfl,hS 1 _ rfl rfl,hS 2 _ rfl rfl,hS 3 _ rfl rfl,hS 4 _ rfl rfl,hS 5 _ rfl rfl,trivial,trivial⟩;simp only [puts,Act.put,dH,dI,dJ] at ha;subst ha;clear hS hF;have hb:=dx (by omega) (hbel.trans (hB.mono hbel.size));go_wp2;exact bodyPost_ret (cO rfl _ _ .i64 (w.heap.size+2) 64 _ rfl V6 uH rfl Tryz.size193) rfl ⟨rfl,hb⟩
theorem CO (p:Bool) (f g h e u v r s:Nat->Int) (X Y Z T U V W S:Int) (hp:rP f g h e X Y Z T) (hq:rP u v r s U V W S) (w:World):
  Calls Tryz.prog 220 #[Pt f g h e,Pt u v r s,.bool p] w fun e_ w'=> e_=.returned (.tuple #[Pt (aV p f u) (aV p g v) (aV p h r) (aV p e s),Pt (aV p u f) (aV p v g) (aV p r h) (aV p s e)])/\Below w.heap.size w w':=by
 have HP:=ak hp;have HQ:=ak hq;clear hp hq;unfold Pt
 go_enter Tryz.func220,Tryz.ntmps220
 go_upto_region 1 with (fail)
 refine aG (fun w1=> aH .i64 w1 w.heap.size 64 (pt f g h e)/\aH .i64 w1 (w.heap.size+1) 64 (pt u v r s)/\aH .i64 w1 (w.heap.size+2) 64 (fun _=> 0)/\aH .i64 w1 (w.heap.size+3) 64 (fun _=> 0)/\Below w.heap.size w w1)
  ⟨.alloc (.alloc (.alloc (bG rfl rfl) _) _) _,.alloc (.alloc (bG (by first | omega | (simp<;> omega)) rfl) _) _,.alloc (bG (by first | omega | (simp<;> omega)) (by rfl)) _,bG (by first | omega | (simp<;> omega)) (by rfl),((((bM _ _).alloc (bB _) _).alloc (by first | omega | (simp<;> omega)) _).alloc (by first | omega | (simp<;> omega)) _).alloc (by first | omega | (simp<;> omega)) _⟩ ?_
 rintro w1 ⟨hA,hC,hZ,hY,hbel⟩
 try simp only [Act.put,dH,dI,dJ]
 go_wp2_with (first | (refine dV rfl (bC (m:=15) (k:=0) rfl rfl (by kernel_rfl)) ?_) | (refine dV rfl (bH rfl rfl bT rfl bE (fun i hi=> FH hA i hi)) ?_) | (refine dV rfl (bH rfl rfl bT rfl bE (fun i hi=> FH hC i hi)) ?_));refine (jv p f u _ _ HP.out.1 HQ.out.1 _).mono ?_;rintro e_ v0 ⟨rfl,hb⟩;replace hA:=hA.kept hb;replace hC:=hC.kept hb;replace hZ:=hZ.kept hb;replace hY:=hY.kept hb;replace hbel:=hbel.trans (hb.mono hbel.size);have s2:=hC.dO (b':=w.heap.size) (by omega) (vals .i64 16 (aV p f u)) 0;have t1:=fM (P:=Tryz.prog) hA (off:=0) (m:=16) (by decide) (aV p f u);have t2:=fM (P:=Tryz.prog) s2 (off:=0) (m:=16) (by decide) (aV p u f);go_upto_region 2 with (fail);clear t1 t2
 refine aG (fun w1=> aH .i64 w1 w.heap.size 64 (pt (aV p f u) g h e)/\aH .i64 w1 (w.heap.size+1) 64 (pt (aV p u f) v r s)/\aH .i64 w1 (w.heap.size+2) 64 (fun _=> 0)/\aH .i64 w1 (w.heap.size+3) 64 (fun _=> 0)/\Below w.heap.size w w1)
  ⟨((hA.mid 16 0 (aV p f u)).congr (JQ _ _ _ _ _)).dO (b':=w.heap.size+1) (by omega) _ _,(s2.mid 16 0 (aV p u f)).congr (JQ _ _ _ _ _),(hZ.dO (b':=w.heap.size) (by omega) (vals .i64 16 (aV p f u)) 0).dO (b':=w.heap.size+1) (by omega) (vals .i64 16 (aV p u f)) 0,(hY.dO (b':=w.heap.size) (by omega) (vals .i64 16 (aV p f u)) 0).dO (b':=w.heap.size+1) (by omega) (vals .i64 16 (aV p u f)) 0,jE (by omega) _ _ _ (jE (bB _) _ _ _ hbel)⟩ ?_
 clear s2 hA hC hZ hY hbel hb;rintro w2 ⟨hA,hC,hZ,hY,hbel⟩
 try simp only [Act.put,dH,dI,dJ]
 go_wp2_with (first | (refine dV rfl (bC (m:=15) (k:=16) rfl rfl (by kernel_rfl)) ?_) | (refine dV rfl (bH rfl rfl bT rfl bE (fun i hi=> Jg hA i hi)) ?_) | (refine dV rfl (bH rfl rfl bT rfl bE (fun i hi=> Jg hC i hi)) ?_));refine (jv p g v _ _ HP.out.2.1 HQ.out.2.1 _).mono ?_;rintro e_ v1 ⟨rfl,hb⟩;replace hA:=hA.kept hb;replace hC:=hC.kept hb;replace hZ:=hZ.kept hb;replace hY:=hY.kept hb;replace hbel:=hbel.trans (hb.mono hbel.size);have s2:=hC.dO (b':=w.heap.size) (by omega) (vals .i64 16 (aV p g v)) 16;have t1:=fM (P:=Tryz.prog) hA (off:=16) (m:=16) (by decide) (aV p g v);have t2:=fM (P:=Tryz.prog) s2 (off:=16) (m:=16) (by decide) (aV p v g);go_upto_region 3 with (fail);clear t1 t2
 refine aG (fun w1=> aH .i64 w1 w.heap.size 64 (pt (aV p f u) (aV p g v) h e)/\aH .i64 w1 (w.heap.size+1) 64 (pt (aV p u f) (aV p v g) r s)/\aH .i64 w1 (w.heap.size+2) 64 (fun _=> 0)/\aH .i64 w1 (w.heap.size+3) 64 (fun _=> 0)/\Below w.heap.size w w1)
  ⟨((hA.mid 16 16 (aV p g v)).congr (JO _ _ _ _ _)).dO (b':=w.heap.size+1) (by omega) _ _,(s2.mid 16 16 (aV p v g)).congr (JO _ _ _ _ _),(hZ.dO (b':=w.heap.size) (by omega) (vals .i64 16 (aV p g v)) 16).dO (b':=w.heap.size+1) (by omega) (vals .i64 16 (aV p v g)) 16,(hY.dO (b':=w.heap.size) (by omega) (vals .i64 16 (aV p g v)) 16).dO (b':=w.heap.size+1) (by omega) (vals .i64 16 (aV p v g)) 16,jE (by omega) _ _ _ (jE (bB _) _ _ _ hbel)⟩ ?_
 clear s2 hA hC hZ hY hbel hb;rintro w3 ⟨hA,hC,hZ,hY,hbel⟩
 try simp only [Act.put,dH,dI,dJ]
 go_wp2_with (first | (refine dV rfl (bC (m:=15) (k:=32) rfl rfl (by kernel_rfl)) ?_) | (refine dV rfl (bH rfl rfl bT rfl bE (fun i hi=> Mq hA i hi)) ?_) | (refine dV rfl (bH rfl rfl bT rfl bE (fun i hi=> Mq hC i hi)) ?_));refine (jv p h r _ _ HP.out.2.2.1 HQ.out.2.2.1 _).mono ?_;rintro e_ v2 ⟨rfl,hb⟩;replace hA:=hA.kept hb;replace hC:=hC.kept hb;replace hZ:=hZ.kept hb;replace hY:=hY.kept hb;replace hbel:=hbel.trans (hb.mono hbel.size);have s2:=hC.dO (b':=w.heap.size) (by omega) (vals .i64 16 (aV p h r)) 32;have t1:=fM (P:=Tryz.prog) hA (off:=32) (m:=16) (by decide) (aV p h r);have t2:=fM (P:=Tryz.prog) s2 (off:=32) (m:=16) (by decide) (aV p r h);go_upto_region 4 with (fail);clear t1 t2
 refine aG (fun w1=> aH .i64 w1 w.heap.size 64 (pt (aV p f u) (aV p g v) (aV p h r) e)/\aH .i64 w1 (w.heap.size+1) 64 (pt (aV p u f) (aV p v g) (aV p r h) s)/\aH .i64 w1 (w.heap.size+2) 64 (fun _=> 0)/\aH .i64 w1 (w.heap.size+3) 64 (fun _=> 0)/\Below w.heap.size w w1)
  ⟨((hA.mid 16 32 (aV p h r)).congr (JN _ _ _ _ _)).dO (b':=w.heap.size+1) (by omega) _ _,(s2.mid 16 32 (aV p r h)).congr (JN _ _ _ _ _),(hZ.dO (b':=w.heap.size) (by omega) (vals .i64 16 (aV p h r)) 32).dO (b':=w.heap.size+1) (by omega) (vals .i64 16 (aV p r h)) 32,(hY.dO (b':=w.heap.size) (by omega) (vals .i64 16 (aV p h r)) 32).dO (b':=w.heap.size+1) (by omega) (vals .i64 16 (aV p r h)) 32,jE (by omega) _ _ _ (jE (bB _) _ _ _ hbel)⟩ ?_
 clear s2 hA hC hZ hY hbel hb;rintro w4 ⟨hA,hC,hZ,hY,hbel⟩
 try simp only [Act.put,dH,dI,dJ]
 go_wp2_with (first | (refine dV rfl (bC (m:=15) (k:=48) rfl rfl (by kernel_rfl)) ?_) | (refine dV rfl (bH rfl rfl bT rfl bE (fun i hi=> Uf hA i hi)) ?_) | (refine dV rfl (bH rfl rfl bT rfl bE (fun i hi=> Uf hC i hi)) ?_));refine (jv p e s _ _ HP.out.2.2.2 HQ.out.2.2.2 _).mono ?_;rintro e_ v3 ⟨rfl,hb⟩;replace hA:=hA.kept hb;replace hC:=hC.kept hb;replace hZ:=hZ.kept hb;replace hY:=hY.kept hb;replace hbel:=hbel.trans (hb.mono hbel.size);have s2:=hC.dO (b':=w.heap.size) (by omega) (vals .i64 16 (aV p e s)) 48;have t1:=fM (P:=Tryz.prog) hA (off:=48) (m:=16) (by decide) (aV p e s);have t2:=fM (P:=Tryz.prog) s2 (off:=48) (m:=16) (by decide) (aV p s e);go_upto_region 5 with (fail);clear t1 t2
 refine aG (fun w1=> aH .i64 w1 w.heap.size 64 (pt (aV p f u) (aV p g v) (aV p h r) (aV p e s))/\aH .i64 w1 (w.heap.size+1) 64 (pt (aV p u f) (aV p v g) (aV p r h) (aV p s e))/\aH .i64 w1 (w.heap.size+2) 64 (fun _=> 0)/\aH .i64 w1 (w.heap.size+3) 64 (fun _=> 0)/\Below w.heap.size w w1)
  ⟨((hA.mid 16 48 (aV p e s)).congr (JM _ _ _ _ _)).dO (b':=w.heap.size+1) (by omega) _ _,(s2.mid 16 48 (aV p s e)).congr (JM _ _ _ _ _),(hZ.dO (b':=w.heap.size) (by omega) (vals .i64 16 (aV p e s)) 48).dO (b':=w.heap.size+1) (by omega) (vals .i64 16 (aV p s e)) 48,(hY.dO (b':=w.heap.size) (by omega) (vals .i64 16 (aV p e s)) 48).dO (b':=w.heap.size+1) (by omega) (vals .i64 16 (aV p s e)) 48,jE (by omega) _ _ _ (jE (bB _) _ _ _ hbel)⟩ ?_
 clear s2 hA hC hZ hY hbel hb;rintro w5 ⟨hA,hC,hZ,hY,hbel⟩
 try simp only [Act.put,dH,dI,dJ]
 obtain ⟨fa,hfa⟩:∃x,x=pt (aV p f u) (aV p g v) (aV p h r) (aV p e s):=⟨_,rfl⟩
 obtain ⟨fb,Ka⟩:∃x,x=pt (aV p u f) (aV p v g) (aV p r h) (aV p s e):=⟨_,rfl⟩
 rw [<-hfa] at hA;rw [<-Ka] at hC
 refine nX (n:=54) 3 rfl (by decide) (by kernel_rfl) (by kernel_rfl) (by kernel_rfl) (by kernel_rfl) rfl
  (fun ii vv ww=> (match ii with | 0=> vv=.agg (arr .i64 64 fa) | 1=> vv=.agg (arr .i64 64 fb) | _=> True)/\(ii=2->aH .i64 ww (w.heap.size+2) 64 fa)) 2
  (fun b ww=> (aH .i64 ww w.heap.size 64 fa/\aH .i64 ww (w.heap.size+1) 64 fb/\aH .i64 ww (w.heap.size+3) 64 (fun _=> 0)/\Below w.heap.size w ww)/\(b=false->aH .i64 ww (w.heap.size+2) 64 (fun _=> 0))) ⟨⟨hA.drew,hC.drew,hY.drew,hbel.drew⟩,fun _=> hZ.drew⟩
  (fun i ww w'=> match i with | 2=> ((aH .i64 ww w.heap.size 64 fa/\aH .i64 ww (w.heap.size+1) 64 fb/\aH .i64 ww (w.heap.size+3) 64 (fun _=> 0)/\Below w.heap.size w ww)->(aH .i64 w' w.heap.size 64 fa/\aH .i64 w' (w.heap.size+1) 64 fb/\aH .i64 w' (w.heap.size+3) 64 (fun _=> 0)/\Below w.heap.size w w')) | _=> w'=ww) ?_ ?_ ?_ ?_ rfl ?_ ?_
 ·intro i ww;(try dsimp only);split
  ·exact id
  ·rfl
 ·intro i b ww w' hi hR hE;have hE':w'=ww:=by (try dsimp only at hE);split at hE;(· exact absurd rfl hi);exact hE
  rw [hE'];exact hR
 ·intro ww w' hR hE;exact ⟨hE hR.1,fun h=> by cases h⟩
 ·intro i j b v ww w' hij hjb hR hS hE;refine ⟨hS.1,fun e=> ?_⟩;subst e;have hE':w'=ww:=by (try dsimp only at hE);split at hE;(· exact absurd rfl hij);exact hE
  rw [hE'];exact hS.2 rfl
 ·refine bQ ?_;refine ⟨?_,?_,?_,(fun h=> absurd rfl h),trivial⟩
  ·intro _ b a w2 hcb hB hF hd;exact aJ <| Et (fun h=> by cases h) (aB rfl uH rfl Tryz.size193 (hF.same 3 rfl) hB.1.1) ⟨rfl,aK⟩ rfl
  ·intro _ b a w2 hcb hB hF hd;exact aJ <| Et (fun h=> by cases h) (aB rfl uH rfl Tryz.size193 (hF.same 4 rfl) hB.1.2.1) ⟨rfl,aK⟩ rfl
  ·intro _ b a w2 hcb hB hF hd;refine aJ <| aW 193 _ _ rfl .i64 (w.heap.size+2) 64 (fun _=> 0) fa Tryz.size193 (hF.same 6 rfl) (hd 0 _ rfl (aj rfl)).1 (hB.2 (hcb rfl)) ?_;exact ⟨_,rfl,fun _=> rfl,⟨trivial,fun _=> (hB.2 (hcb rfl)).setRow _ _⟩,fun h=> ⟨h.1.aC _ (by omega) _,h.2.1.aC _ (by omega) _,h.2.2.1.aC _ (by omega) _,aA h.2.2.2 (by omega) _⟩⟩
 ·intro b a w3 hB hF hS;have hV:=(hS 2 _ rfl (by decide)).2 rfl;obtain ⟨⟨_,_,hY3,hb3⟩,_⟩:=hB;have ha:=aI rfl rfl hF [_,_,undef,undef] rfl ⟨(hS 0 _ rfl (by decide)).1,(hS 1 _ rfl (by decide)).1,trivial,trivial,trivial⟩;simp only [puts,Act.put,dH,dI,dJ] at ha;subst ha;clear hS hF hA hC hZ hY hbel;refine aW 193 _ _ rfl .i64 (w.heap.size+3) 64 (fun _=> 0) _ Tryz.size193 rfl rfl hY3 ?_;have r1:=hV.aC (w.heap.size+3) (by omega) (arr .i64 64 fb);have r2:=hY3.setRow 64 fb;have r3:=aA hb3 (by omega:w.heap.size<=w.heap.size+3) (arr .i64 64 fb);go_wp2;exact bodyPost_ret (pU rfl _ _ .i64 (w.heap.size+2) 64 _ .i64 (w.heap.size+3) 64 _ rfl r1 uH rfl Tryz.size193 rfl r2 uH rfl Tryz.size193) rfl ⟨by rw [hfa,Ka],r3⟩
end Go.Proofs.YtpcjekgfnfjbpaaGreat
