/- Part 46 of EscrowComes; conditions: in each theorem. -/
import Derived.Test.YtpcjekgfnfjbpaaGreatPkEC44
import Derived.Test.YtpcjekgfnfjbpaaGreatPkEC10
import Derived.Test.YtpcjekgfnfjbpaaGreatPkEC37
set_option linter.unusedVariables false
set_option linter.unusedSimpArgs false
set_option maxRecDepth 100000
set_option maxHeartbeats 6400000
namespace Go.bI
open Go.RowKit
def DT (w:World) (b:Nat) (cs:Array Value):Prop:=∃T,w.heap[b]? =some (.cells cs T (0,0))
theorem DT.lt {w:World} {b:Nat} {cs:Array Value} (h:DT w b cs):b<w.heap.size:=by obtain⟨T,h⟩:=h;exact(Array.getElem?_eq_some_iff.1 h).1
theorem DT.newAt {w:World} {T:TypeId} {b:Nat} {cs:Array Value} (hb:b=w.heap.size):DT (w.alloc (.cells cs T)) b cs:=by subst hb;exact⟨T,heap_alloc_new w _⟩
theorem DT.kept {w w':World} {b:Nat} {cs:Array Value} (h:DT w b cs) (hb:Below w.heap.size w w'):DT w' b cs:=by
 have hlt:=h.lt;obtain⟨T,h⟩:=h;exact⟨T,by rw[hb.block b hlt];exact h⟩
theorem DT.cell {w:World} {b:Nat} {cs:Array Value} (h:DT w b cs) (i:Nat) {v:Value} (hv:cs[i]? =some v):w.cell? ⟨b,i,none⟩=some v:=by
 obtain⟨T,h⟩:=h;rw[cell_of_row w b i _ T (0,0) h,hv]
section
variable {P : Program} {ops : Array Oper} {rest : List Oper} {o : Oper} {a : Act} {w : World} {Q : Exit -> Act -> World -> Prop}
end
end Go.bI
namespace Go.bI
def raL (X Y Z U V R D:Int):Int:=(Z * R) * (Z * R) - D * ((X * U) * (Y * V))
def raM (X Y Z U V R D:Int):Int:=(Z * R) * (Z * R)+D * ((X * U) * (Y * V))
def raC (X Y U V:Int):Int:=(X+Y) * (U+V) - X * U - Y * V
def raX (X Y Z U V R D:Int):Int:=(Z * R) * (raL X Y Z U V R D * raC X Y U V)
def raY (X Y Z U V R D:Int):Int:=(Z * R) * (raM X Y Z U V R D * (Y * V+X * U))
def raZ (X Y Z U V R D:Int):Int:=raL X Y Z U V R D * raM X Y Z U V R D
end Go.bI
namespace Go.bI
open Go.RowKit
theorem LC (f g h e x:Nat->Int) (i:Nat) (_:i<64):laid (pt f g h e) 0 16 x i=pt x g h e i:=by
 unfold laid pt
 repeat' split
 all_goals first | rfl | (exfalso;omega) | (congr 1;omega)
theorem LB (f g h e x:Nat->Int) (i:Nat) (_:i<64):laid (pt f g h e) 16 16 x i=pt f x h e i:=by
 unfold laid pt
 repeat' split
 all_goals first | rfl | (exfalso;omega) | (congr 1;omega)
theorem LA (f g h e x:Nat->Int) (i:Nat) (_:i<64):laid (pt f g h e) 32 16 x i=pt f g x e i:=by
 unfold laid pt
 repeat' split
 all_goals first | rfl | (exfalso;omega) | (congr 1;omega)
theorem Lx (f g h e x:Nat->Int) (i:Nat) (_:i<64):laid (pt f g h e) 48 16 x i=pt f g h x i:=by
 unfold laid pt
 repeat' split
 all_goals first | rfl | (exfalso;omega) | (congr 1;omega)
theorem FU {P:Program} {o:Oper} {a:Act} {w:World} {v:Value} {S:Value->World->Prop} {E:World->Prop} {Q:Exit->Act->World->Prop} (hd:∀h:o.dst=none,v=undef) (hr:(execOp a.eval o).run P w=.ok (.value v) w) (hs:S v w) (hE:E w):
  o.wp P a w (fun a' w'=> ∃v,a'=a.put o.dst v/\(o.dst=none->v=undef)/\S v w'/\E w') Q:=by
 unfold Oper.wp;rw[hr];exact⟨v,rfl,fun h=>hd h,hs,hE⟩
theorem gG {P:Program} {w:World} {k:IntKind} {b off n m:Nat} {f:Nat->Int} (h:aK k w b n f) (hm:off+m<=n) (g:Nat->Int):(storeCells ⟨b,off,none⟩ (arr k m g).toList).run P w=.ok () (w.setCells b off (vals k m g)):=by
 have hv:(arr k m g).toList=vals k m g:=rfl;rw[hv];have h1:=run_storeCells_cells (P:=P) b off (vals k m g) 0 w (fun j hj=>by rw[dH] at hj;rw[Nat.add_zero,h.cell (off+j) aH];rfl) (fun j hj=>h.free _) (fun v hv=>by obtain⟨_,_,rfl⟩:=List.mem_map.1 hv;rfl)
 simpa using h1
end Go.bI
namespace Go.Proofs.YtpcjekgfnfjbpaaGreat
open Go.RowKit Go.bI Go.ChangeShapes
attribute [local go_sem ↓] Go.wp_at_zero Go.wp_at_succ
abbrev Pt (f g h e:Nat->Int):Value:=.agg (arr .i64 64 (pt f g h e))
theorem Tryz.size193:(Tryz.prog.info? 193).map (·.size)=some 64:=by kernel_rfl
theorem MN (f g h e:Nat->Int) (w:World):(Instr.build 193 #[(0,.agg (arr .i64 16 f)),(1,.agg (arr .i64 16 g)),(2,.agg (arr .i64 16 h)),(3,.agg (arr .i64 16 e))]).run Tryz.prog w=.ok (Pt f g h e) w:=
 Go.run_build w _ _ (arr .i64 64 (pt f g h e)) aQ
def kH:Nat->Int:=tJ (aS (dw (aV 60832) (aV 60833)) (kC (dw (aV 60833) (aV 60833))))
def dN:Int:= -((60832+60833) * zh (60833+60833))
theorem oF (n:Int) (h:sN n=n):Fe (aV n) n:=by have:=oD n;rwa [h] at this
theorem pV:Fe (aV 60833) 60833:=oF _ aM
theorem RF:Fe (aV 60832) 60832:=oF _ aM
theorem RA:Fe (aV 0) 0:=oF _ aM
theorem rX:Fe (aV 1) 1:=oF _ aM
theorem lK:Fe kH dN:=((RF.dw pV).aS (kR (pV.dw pV))).tJ
theorem WJ:toF dN=dE:=by
 unfold dN zh dE;rw[show (60832+60833:Int)=121665 by decide,show (60833+60833:Int)=121666 by decide,pG,dK,wX]
def sA (f g u v:Nat->Int):Nat->Int:=aS (fG g f) (fG v u)
def sB (f g u v:Nat->Int):Nat->Int:=aS (dw g f) (dw v u)
def sC (e s d:Nat->Int):Nat->Int:=aS (aS e s) d
def sD (h r:Nat->Int):Nat->Int:=dw (aS h r) (aS h r)
def sumX (f g h e u v r s d:Nat->Int):Nat->Int:=aS (fG (sB f g u v) (sA f g u v)) (fG (sD h r) (sC e s d))
def afp (f g h e u v r s d:Nat->Int):Nat->Int:=aS (dw (sD h r) (sC e s d)) (dw (sB f g u v) (sA f g u v))
def sumZ (f g h e u v r s d:Nat->Int):Nat->Int:=aS (fG (sD h r) (sC e s d)) (dw (sD h r) (sC e s d))
def afq (f g h e u v r s d:Nat->Int):Nat->Int:=aS (fG (sB f g u v) (sA f g u v)) (dw (sB f g u v) (sA f g u v))
theorem zJ.sum {f g h e u v r s d:Nat->Int} {X Y Z T U V W S D:Int} (hp:zJ f g h e X Y Z T) (hq:zJ u v r s U V W S) (hd:Fe d D):
  zJ (sumX f g h e u v r s d) (afp f g h e u v r s d) (sumZ f g h e u v r s d) (afq f g h e u v r s d) (smE X Y U V * smF Z T W S D) (smG Z T W S D * smH X Y U V) (smF Z T W S D * smG Z T W S D) (smE X Y U V * smH X Y U V):=by
 obtain⟨p1,p2,p3,p4⟩:=hp;obtain⟨q1,q2,q3,q4⟩:=hq;have a:=(p2.fG p1).aS (q2.fG q1);have b:=(p2.dw p1).aS (q2.dw q1);have c:=(p4.aS q4).aS hd;have dd:=(p3.aS q3).dw (p3.aS q3);exact⟨(b.fG a).aS (dd.fG c),(dd.dw c).aS (b.dw a),(dd.fG c).aS (dd.dw c),(b.fG a).aS (b.dw a)⟩
theorem zW (w:World):Calls Tryz.prog 217 #[] w fun e w'=>e=.returned (El kH)/\Below w.heap.size w w':=by
 have HS:Hid (∀n w,Calls Tryz.prog 200 #[.int .i64 n] w fun e w'=>e=.returned (.agg (arr .i64 16 (aV n)))/\Below w.heap.size w w'):=fun n w=>fI n w;unfold El
 go_enter Tryz.func217,Tryz.ntmps217
 go_upto_region 1 with(fail);refine aJ (fun w1=>aK .i64 w1 w.heap.size 16 (fun _=>0)/\Below w.heap.size w w1) ⟨cB rfl (by rfl),(bT _ _).alloc (bH _) _⟩ ?_;rintro w1 ⟨hZ,aD⟩
 refine bN (n:=14) aQ aQ aQ rfl
  (ku [(4,2),(5,3)]) (gH [(4,2),(5,3)]) (fun _=>arr .i64 16 (fun _=>0)) (fun i=>match i with | 2=>(arr .i64 16 (aV 60833)) | 3=>(arr .i64 16 (aV 60832)) | _=> #[]) (fun _=>191) (fun i=>match i with | 2=>1 | 3=>2 | _=>0)
  (fun ii vv _=>(match ii with | 0=>vv=.agg (arr .i64 16 (aV 60833)) | 1=>vv=.agg (arr .i64 16 (aV 60832)) | _=>True)) (fun _ _=>True) (fun _ _ _=>trivial) (fun _ _ _ _ _ _ _=>trivial) (fun _ _ _ _ h _=>h)
  (iJ rfl) (fT rfl) ?_ ?_ ?_ ?_
 ·refine dG ?_;refine⟨?_,?_,(fun h=>by cases h),(fun h=>by cases h),(fun _ h=>by cases h),(fun _ h=>by cases h),trivial⟩
  ·intro _ _ a w2 hB hF hd;refine aN <| aI _ _ _ rfl Tryz.call200 _ (args1 rfl) aR ((fI 60833 w2).mono ?_);rintro e w3 ⟨rfl,hb⟩;exact⟨_,rfl,rfl,hb⟩
  ·intro _ _ a w2 hB hF hd;refine aN <| aI _ _ _ rfl Tryz.call200 _ (args1 rfl) aR ((fI 60832 w2).mono ?_);rintro e w3 ⟨rfl,hb⟩;exact⟨_,rfl,rfl,hb⟩
 ·refine dG ?_;refine⟨(fun h=>by cases h),(fun h=>by cases h),?_,?_,(fun h=>by cases h),(fun h=>by cases h),trivial⟩
  ·exact fun _=>⟨rfl,rfl,fun a w2 K h=>bD rfl rfl Tryz.zeroValue191 aR h⟩
  ·exact fun _=>⟨rfl,rfl,fun a w2 K h=>bD rfl rfl Tryz.zeroValue191 aR h⟩
 ·refine dG ?_;refine⟨(fun _ h=>by cases h),(fun _ h=>by cases h),(fun _ h=>by cases h),(fun _ h=>by cases h),?_,?_,trivial⟩
  ·intro p hp;obtain rfl:2=p:=gJ hp;exact⟨rfl,rfl,⟨_,rfl⟩,aj rfl,fun a w2 b K hB hF hd hx hb h=>bQ rfl rfl bP hx (hd 0 _ rfl rfl rfl (aj rfl)) hb h⟩
  ·intro p hp;obtain rfl:3=p:=gJ hp;exact⟨rfl,rfl,⟨_,rfl⟩,aj rfl,fun a w2 b K hB hF hd hx hb h=>bQ rfl rfl bP hx (hd 1 _ rfl rfl rfl (aj rfl)) hb h⟩
 ·intro a w2 blk hB hF hS hv hfin dS;obtain⟨v2,v2l,v2u⟩:=hv 2 _ rfl rfl;obtain⟨v3,Gv,Sn⟩:=hv 3 _ rfl rfl;have ha:=aO rfl rfl hF [_,_,_,_,undef,undef] rfl ⟨hS 0 _ rfl rfl rfl,hS 1 _ rfl rfl rfl,v2,v3,trivial,trivial,trivial⟩;have f2:=hfin 4 _ 2 rfl rfl;have f3:=hfin 5 _ 3 rfl rfl;have Mr:=dS 2 3 _ _ rfl rfl rfl rfl aM;simp only[puts,Act.put,fB,fD,fF] at ha;subst ha;have V2:aK .i64 w2 (blk 2) 16 (aV 60833):=⟨_,f2⟩
  have V3:aK .i64 w2 (blk 3) 16 (aV 60832):=⟨_,f3⟩
  clear hS hv hfin dS hF v2 v3 f2 f3;have hz:=hZ.lt;replace hZ:=hZ.kept hB;replace aD:=aD.trans (hB.mono aD.size);obtain⟨x,hx⟩:∃x,x=blk 2:=⟨_,rfl⟩
  obtain⟨y,hy⟩:∃x,x=blk 3:=⟨_,rfl⟩
  rw[<-hx] at V2 ⊢;rw[<-hy] at V3 ⊢;have h1:=V2;have h2:=V3;clear hB V2 V3 hx hy;go_upto_region 2 with(fail)
  refine dJ (n:=14) (fun i=>i==9) aQ aQ aQ aQ rfl
   (fun ii vv _=>(match ii with | 0=>vv=.agg (arr .i64 16 (aV 60832)) | 1 | 3 | 4=>vv=.agg (arr .i64 16 (aV 60833)) | 2=>vv=.agg (arr .i64 16 (dw (aV 60832) (aV 60833))) | 5=>vv=.agg (arr .i64 16 (dw (aV 60833) (aV 60833))) | 6=>vv=.agg (arr .i64 16 (kC (dw (aV 60833) (aV 60833)))) | 7=>vv=.agg (arr .i64 16 (aS (dw (aV 60832) (aV 60833)) (kC (dw (aV 60833) (aV 60833))))) | 8=>vv=.agg (arr .i64 16 (tJ (aS (dw (aV 60832) (aV 60833)) (kC (dw (aV 60833) (aV 60833)))))) | _=>True))
   (fun w w'=>Below w.heap.size w w') (fun _ _ h=>h) (fun _ _ _ _ h _=>h)
   (fun _=>w.heap.size) (fun _=>(arr .i64 16 (fun _=>0))) (fun _=>(arr .i64 16 (tJ (aS (dw (aV 60832) (aV 60833)) (kC (dw (aV 60833) (aV 60833)))))))
   (by intro i j _ _ dD jJ gW;simp only[beq_iff_eq] at dD jJ;omega)
   (by intro i _ dD;exact(hZ).row)
   ?_ ?_ ?_
  ·refine dG ?_;refine⟨?_,?_,?_,?_,?_,?_,?_,?_,?_,(aP),trivial⟩
   ·intro _ a w2 hB hF hd;exact aN <| aW (aF rfl dB rfl bP (hF.same 2 rfl) (h2.below hB h2.lt)) rfl
   ·intro _ a w2 hB hF hd;exact aN <| aW (aF rfl dB rfl bP (hF.same 1 rfl) (h1.below hB h1.lt)) rfl
   ·intro _ a w2 hB hF hd;refine aN <| aI _ _ _ rfl Tryz.call218 _ (args2 (hd 0 _ rfl rfl (aj rfl)) (hd 1 _ rfl rfl (aj rfl))) aR ((iD _ _ _ _ RF pV w2).mono ?_);rintro e w3 ⟨rfl,hb⟩;exact⟨_,rfl,rfl,hb⟩
   ·intro _ a w2 hB hF hd;exact aN <| aW (aF rfl dB rfl bP (hF.same 1 rfl) (h1.below hB h1.lt)) rfl
   ·intro _ a w2 hB hF hd;exact aN <| aW (aF rfl dB rfl bP (hF.same 1 rfl) (h1.below hB h1.lt)) rfl
   ·intro _ a w2 hB hF hd;refine aN <| aI _ _ _ rfl Tryz.call218 _ (args2 (hd 3 _ rfl rfl (aj rfl)) (hd 4 _ rfl rfl (aj rfl))) aR ((iD _ _ _ _ pV pV w2).mono ?_);rintro e w3 ⟨rfl,hb⟩;exact⟨_,rfl,rfl,hb⟩
   ·intro _ a w2 hB hF hd;refine aN <| aI _ _ _ rfl Tryz.call204 _ (args1 (hd 5 _ rfl rfl (aj rfl))) aR ((kL _ _ ((pV).dw pV) w2).mono ?_);rintro e w3 ⟨rfl,hb⟩;exact⟨_,rfl,rfl,hb⟩
   ·intro _ a w2 hB hF hd;refine aN <| aI _ _ _ rfl Tryz.call203 _ (args2 (hd 2 _ rfl rfl (aj rfl)) (hd 6 _ rfl rfl (aj rfl))) aR ((bZ _ _ _ _ ((RF).dw pV) (kR ((pV).dw pV)) w2).mono ?_);rintro e w3 ⟨rfl,hb⟩;exact⟨_,rfl,rfl,hb⟩
   ·intro _ a w2 hB hF hd;refine aN <| aI _ _ _ rfl Tryz.call211 _ (args1 (hd 7 _ rfl rfl (aj rfl))) aR ((zw _ _ ((((RF).dw pV)).aS (kR ((pV).dw pV))) w2).mono ?_);rintro e w3 ⟨rfl,hb⟩;exact⟨_,rfl,rfl,hb⟩
  ·refine dG ?_;refine⟨(aP),(aP),(aP),(aP),(aP),(aP),(aP),(aP),(aP),?_,trivial⟩
   ·intro _ a w1 w2 K hB hF hS hr hK;exact bG 191 _ _ rfl .i64 (w.heap.size) 16 (fun _=>0) (tJ (aS (dw (aV 60832) (aV 60833)) (kC (dw (aV 60833) (aV 60833))))) bP (hF.same 0 rfl) (hS 8 _ rfl rfl) hr hK
  ·intro a wf w3 hB hF hS hfil;have other:∀{k:IntKind} {qb n:Nat} {f:Nat->Int},qb≠w.heap.size->aK k wf qb n f->aK k w3 qb n f:=fun {k qb n f} e0 hA=>hfil.arr (by intro i _ dD;simp only[kZ,beq_iff_eq] at dD;subst dD<;> ((try simp only[]);(try dsimp only);omega)) hA;have dU:∀{B:Nat} {w0:World},B<=w.heap.size->Below B w0 wf->Below B w0 w3:=fun {B w0} e0 hA=>hfil.below (by intro i _ dD;simp only[kZ,beq_iff_eq] at dD;subst dD<;> ((try simp only[]);(try dsimp only);omega)) hA;have V9:aK .i64 w3 (w.heap.size) 16 (tJ (aS (dw (aV 60832) (aV 60833)) (kC (dw (aV 60833) (aV 60833))))):=hfil.at 9 aM rfl;have tO:=hfil.size;clear hfil;have ha:=aO rfl rfl hF [_,_,_,_,_,_,_,_,_,undef] rfl ⟨hS 0 _ rfl rfl,hS 1 _ rfl rfl,hS 2 _ rfl rfl,hS 3 _ rfl rfl,hS 4 _ rfl rfl,hS 5 _ rfl rfl,hS 6 _ rfl rfl,hS 7 _ rfl rfl,hS 8 _ rfl rfl,trivial,trivial⟩;simp only[puts,Act.put,fB,fD,fF] at ha;subst ha;clear hS hF;have hb:=dU (bH _) (aD.trans (hB.mono aD.size));go_wp2;exact bodyPost_ret (dI rfl _ _ .i64 w.heap.size 16 _ rfl V9 dB rfl bP) rfl ⟨rfl,hb⟩
theorem Cw (f g:Nat->Int) (X Y:Int) (hf:Fe f X) (hg:Fe g Y) (w:World):Calls Tryz.prog 212 #[El f,El g] w fun e w'=>e=.returned (Pt f g (aV 1) (aS f g))/\Below w.heap.size w w':=by
 have HF:=ay hf;have HG:=ay hg;clear hf hg;unfold El Pt
 go_enter Tryz.func212,Tryz.ntmps212
 go_upto_region 1 with(fail);refine aJ (fun w1=>aK .i64 w1 w.heap.size 16 f/\aK .i64 w1 (w.heap.size+1) 16 g/\aK .i64 w1 (w.heap.size+2) 64 (fun _=>0)/\Below w.heap.size w w1) ⟨.alloc (.alloc (cB rfl rfl) _) _,.alloc (cB dO rfl) _,cB dO (by rfl),(((bT _ _).alloc (bH _) _).alloc dO _).alloc dO _⟩ ?_;rintro w1 ⟨hA,hC,hZ,aD⟩
 refine dJ (n:=12) (fun i=>i==7) aQ aQ aQ aQ rfl
  (fun ii vv _=>(match ii with | 0 | 3=>vv=.agg (arr .i64 16 (f)) | 1 | 4=>vv=.agg (arr .i64 16 (g)) | 2=>vv=.agg (arr .i64 16 (aV 1)) | 5=>vv=.agg (arr .i64 16 (aS (f) (g))) | 6=>vv=.agg (arr .i64 64 (pt (f) (g) (aV 1) (aS (f) (g)))) | _=>True))
  (fun w w'=>Below w.heap.size w w') (fun _ _ h=>h) (fun _ _ _ _ h _=>h)
  (fun _=>(w.heap.size+2)) (fun _=>(arr .i64 64 (fun _=>0))) (fun _=>(arr .i64 64 (pt (f) (g) (aV 1) (aS (f) (g)))))
  (by intro i j _ _ dD jJ gW;simp only[beq_iff_eq] at dD jJ;omega)
  (by intro i _ dD;exact(hZ).row)
  ?_ ?_ ?_
 ·refine dG ?_;refine⟨?_,?_,?_,?_,?_,?_,?_,(aP),trivial⟩
  ·intro _ a w2 hB hF hd;exact aN <| aW (aF rfl dB rfl bP (hF.same 2 rfl) (hA.below hB hA.lt)) rfl
  ·intro _ a w2 hB hF hd;exact aN <| aW (aF rfl dB rfl bP (hF.same 3 rfl) (hC.below hB hC.lt)) rfl
  ·intro _ a w2 hB hF hd;refine aN <| aI _ _ _ rfl Tryz.call200 _ (args1 rfl) aR ((fI 1 w2).mono ?_);rintro e w3 ⟨rfl,hb⟩;exact⟨_,rfl,rfl,hb⟩
  ·intro _ a w2 hB hF hd;exact aN <| aW (aF rfl dB rfl bP (hF.same 2 rfl) (hA.below hB hA.lt)) rfl
  ·intro _ a w2 hB hF hd;exact aN <| aW (aF rfl dB rfl bP (hF.same 3 rfl) (hC.below hB hC.lt)) rfl
  ·intro _ a w2 hB hF hd;refine aN <| aI _ _ _ rfl Tryz.call203 _ (args2 (hd 3 _ rfl rfl (aj rfl)) (hd 4 _ rfl rfl (aj rfl))) aR ((bZ _ _ _ _ HF.out HG.out w2).mono ?_);rintro e w3 ⟨rfl,hb⟩;exact⟨_,rfl,rfl,hb⟩
  ·intro _ a w2 hB hF hd;exact aN <| aW (fK rfl (by simp only[vT,List.map_cons,List.map_nil,show a.eval (Operand.tmp 5)=.agg (arr .i64 16 (f)) from(hd 0 _ rfl rfl (aj rfl)),show a.eval (Operand.tmp 6)=.agg (arr .i64 16 (g)) from(hd 1 _ rfl rfl (aj rfl)),show a.eval (Operand.tmp 7)=.agg (arr .i64 16 (aV 1)) from(hd 2 _ rfl rfl (aj rfl)),show a.eval (Operand.tmp 10)=.agg (arr .i64 16 (aS (f) (g))) from(hd 5 _ rfl rfl (aj rfl))];exact MN _ _ _ _ _)) rfl
 ·refine dG ?_;refine⟨(aP),(aP),(aP),(aP),(aP),(aP),(aP),?_,trivial⟩
  ·intro _ a w1 w2 K hB hF hS hr hK;exact bG 193 _ _ rfl .i64 ((w.heap.size+2)) 64 (fun _=>0) (pt (f) (g) (aV 1) (aS (f) (g))) Tryz.size193 (hF.same 4 rfl) (hS 6 _ rfl rfl) hr hK
 ·intro a wf w3 hB hF hS hfil;have other:∀{k:IntKind} {qb n:Nat} {f:Nat->Int},qb≠(w.heap.size+2)->aK k wf qb n f->aK k w3 qb n f:=fun {k qb n f} e0 hA=>hfil.arr (by intro i _ dD;simp only[kZ,beq_iff_eq] at dD;subst dD<;> ((try simp only[]);(try dsimp only);omega)) hA;have dU:∀{B:Nat} {w0:World},B<=(w.heap.size+2)->Below B w0 wf->Below B w0 w3:=fun {B w0} e0 hA=>hfil.below (by intro i _ dD;simp only[kZ,beq_iff_eq] at dD;subst dD<;> ((try simp only[]);(try dsimp only);omega)) hA;have V7:aK .i64 w3 ((w.heap.size+2)) 64 (pt (f) (g) (aV 1) (aS (f) (g))):=hfil.at 7 aM rfl;have tO:=hfil.size;clear hfil;have ha:=aO rfl rfl hF [_,_,_,_,_,_,_,undef] rfl ⟨hS 0 _ rfl rfl,hS 1 _ rfl rfl,hS 2 _ rfl rfl,hS 3 _ rfl rfl,hS 4 _ rfl rfl,hS 5 _ rfl rfl,hS 6 _ rfl rfl,trivial,trivial⟩;simp only[puts,Act.put,fB,fD,fF] at ha;subst ha;clear hS hF;have hb:=dU aH (aD.trans (hB.mono aD.size));go_wp2;exact bodyPost_ret (dI rfl _ _ .i64 (w.heap.size+2) 64 _ rfl V7 Jj rfl Tryz.size193) rfl ⟨rfl,hb⟩
theorem Hy (w:World):Calls Tryz.prog 219 #[] w fun e w'=>e=.returned (Pt (aV 0) (aV 1) (aV 1) (aS (aV 0) (aV 1)))/\Below w.heap.size w w':=by
 unfold Pt
 go_enter Tryz.func219,Tryz.ntmps219
 go_upto_region 1 with(fail);refine aJ (fun w1=>aK .i64 w1 w.heap.size 64 (fun _=>0)/\Below w.heap.size w w1) ⟨cB rfl (by rfl),(bT _ _).alloc (bH _) _⟩ ?_;rintro w1 ⟨hZ,aD⟩
 refine dJ (n:=4) (fun i=>i==3) aQ aQ aQ aQ rfl
  (fun ii vv _=>(match ii with | 0=>vv=.agg (arr .i64 16 (aV 0)) | 1=>vv=.agg (arr .i64 16 (aV 1)) | 2=>vv=.agg (arr .i64 64 (pt (aV 0) (aV 1) (aV 1) (aS (aV 0) (aV 1)))) | _=>True))
  (fun w w'=>Below w.heap.size w w') (fun _ _ h=>h) (fun _ _ _ _ h _=>h)
  (fun _=>w.heap.size) (fun _=>(arr .i64 64 (fun _=>0))) (fun _=>(arr .i64 64 (pt (aV 0) (aV 1) (aV 1) (aS (aV 0) (aV 1)))))
  (by intro i j _ _ dD jJ gW;simp only[beq_iff_eq] at dD jJ;omega)
  (by intro i _ dD;exact(hZ).row)
  ?_ ?_ ?_
 ·refine dG ?_;refine⟨?_,?_,?_,(aP),trivial⟩
  ·intro _ a w2 hB hF hd;refine aN <| aI _ _ _ rfl Tryz.call200 _ (args1 rfl) aR ((fI 0 w2).mono ?_);rintro e w3 ⟨rfl,hb⟩;exact⟨_,rfl,rfl,hb⟩
  ·intro _ a w2 hB hF hd;refine aN <| aI _ _ _ rfl Tryz.call200 _ (args1 rfl) aR ((fI 1 w2).mono ?_);rintro e w3 ⟨rfl,hb⟩;exact⟨_,rfl,rfl,hb⟩
  ·intro _ a w2 hB hF hd;refine aN <| aI _ _ _ rfl Tryz.call212 _ (args2 (hd 0 _ rfl rfl (aj rfl)) (hd 1 _ rfl rfl (aj rfl))) aR ((Cw _ _ _ _ RA rX w2).mono ?_);rintro e w3 ⟨rfl,hb⟩;exact⟨_,rfl,rfl,hb⟩
 ·refine dG ?_;refine⟨(aP),(aP),(aP),?_,trivial⟩
  ·intro _ a w1 w2 K hB hF hS hr hK;exact bG 193 _ _ rfl .i64 (w.heap.size) 64 (fun _=>0) (pt (aV 0) (aV 1) (aV 1) (aS (aV 0) (aV 1))) Tryz.size193 (hF.same 0 rfl) (hS 2 _ rfl rfl) hr hK
 ·intro a wf w3 hB hF hS hfil;have other:∀{k:IntKind} {qb n:Nat} {f:Nat->Int},qb≠w.heap.size->aK k wf qb n f->aK k w3 qb n f:=fun {k qb n f} e0 hA=>hfil.arr (by intro i _ dD;simp only[kZ,beq_iff_eq] at dD;subst dD<;> ((try simp only[]);(try dsimp only);omega)) hA;have dU:∀{B:Nat} {w0:World},B<=w.heap.size->Below B w0 wf->Below B w0 w3:=fun {B w0} e0 hA=>hfil.below (by intro i _ dD;simp only[kZ,beq_iff_eq] at dD;subst dD<;> ((try simp only[]);(try dsimp only);omega)) hA;have V3:aK .i64 w3 (w.heap.size) 64 (pt (aV 0) (aV 1) (aV 1) (aS (aV 0) (aV 1))):=hfil.at 3 aM rfl;have tO:=hfil.size;clear hfil;have ha:=aO rfl rfl hF [_,_,_,undef] rfl ⟨hS 0 _ rfl rfl,hS 1 _ rfl rfl,hS 2 _ rfl rfl,trivial,trivial⟩;simp only[puts,Act.put,fB,fD,fF] at ha;subst ha;clear hS hF;have hb:=dU (bH _) (aD.trans (hB.mono aD.size));go_wp2;exact bodyPost_ret (dI rfl _ _ .i64 w.heap.size 64 _ rfl V3 Jj rfl Tryz.size193) rfl ⟨rfl,hb⟩
theorem Tn (f g h e u v r s d:Nat->Int) (X Y Z T U V W S D:Int) (hp:zJ f g h e X Y Z T) (hq:zJ u v r s U V W S) (hd:Fe d D) (w:World):
  Calls Tryz.prog 221 #[Pt f g h e,Pt u v r s,El d] w fun e_ w'=>e_=.returned (Pt (sumX f g h e u v r s d) (afp f g h e u v r s d) (sumZ f g h e u v r s d) (afq f g h e u v r s d))/\Below w.heap.size w w':=by
 have HP:=ay hp;have HQ:=ay hq;have HD:=ay hd;clear hp hq hd;unfold Pt El
 go_enter Tryz.func221,Tryz.ntmps221
 go_upto_region 1 with(fail)
 refine aJ (fun w1=>aK .i64 w1 w.heap.size 64 (pt f g h e)/\aK .i64 w1 (w.heap.size+1) 64 (pt u v r s)/\aK .i64 w1 (w.heap.size+2) 16 d/\aK .i64 w1 (w.heap.size+3) 64 (fun _=>0)/\Below w.heap.size w w1)
  ⟨.alloc (.alloc (.alloc (cB rfl rfl) _) _) _,.alloc (.alloc (cB dO rfl) _) _,.alloc (cB dO rfl) _,cB dO (by rfl),((((bT _ _).alloc (bH _) _).alloc dO _).alloc dO _).alloc dO _⟩ ?_
 rintro w1 ⟨hA,hC,hE,hZ,aD⟩;have gP:w.heap.size+4<=w1.heap.size:=by have:=hZ.lt;omega
 refine bN (n:=77) aQ aQ aQ rfl
  (ku [(12,11)]) (gH [(12,11)]) (fun _=>arr .i64 16 (fun _=>0)) (fun _=>(arr .i64 16 (aS (fG (g) (f)) (fG (v) (u))))) (fun _=>191) (fun _=>7)
  (fun ii vv _=>(match ii with | 0=>vv=.pointer (some ⟨w.heap.size,16,none⟩) | 1=>vv=.agg (arr .i64 16 (g)) | 2=>vv=.pointer (some ⟨w.heap.size,0,none⟩) | 3=>vv=.agg (arr .i64 16 (f)) | 4=>vv=.agg (arr .i64 16 (fG (g) (f))) | 5=>vv=.pointer (some ⟨(w.heap.size+1),16,none⟩) | 6=>vv=.agg (arr .i64 16 (v)) | 7=>vv=.pointer (some ⟨(w.heap.size+1),0,none⟩) | 8=>vv=.agg (arr .i64 16 (u)) | 9=>vv=.agg (arr .i64 16 (fG (v) (u))) | 10=>vv=.agg (arr .i64 16 (aS (fG (g) (f)) (fG (v) (u)))) | _=>True)) (fun _ _=>True) (fun _ _ _=>trivial) (fun _ _ _ _ _ _ _=>trivial) (fun _ _ _ _ h _=>h)
  (iJ rfl) (fT rfl) ?_ ?_ ?_ ?_
 ·refine dG ?_;refine⟨?_,?_,?_,?_,?_,?_,?_,?_,?_,?_,?_,(fun h=>by cases h),(fun _ h=>by cases h),trivial⟩
  ·intro _ _ a w2 hB hF hd;refine aN <| aW (bB (m:=15) (k:=16) rfl (hF.same 3 rfl) aQ) ?_;exact rfl
  ·intro _ _ a w2 hB hF hd;exact aN <| aW (bW rfl (hd 0 _ rfl rfl rfl (aj rfl)) dB rfl bP (fun i hi=>(hB.cell (p:=⟨w.heap.size,16+i,none⟩) hA.lt).trans (Ol hA i hi))) rfl
  ·intro _ _ a w2 hB hF hd;refine aN <| aW (bB (m:=15) (k:=0) rfl (hF.same 3 rfl) aQ) ?_;exact rfl
  ·intro _ _ a w2 hB hF hd;exact aN <| aW (bW rfl (hd 2 _ rfl rfl rfl (aj rfl)) dB rfl bP (fun i hi=>(hB.cell (p:=⟨w.heap.size,0+i,none⟩) hA.lt).trans (KC hA i hi))) rfl
  ·intro _ _ a w2 hB hF hd;refine aN <| aI _ _ _ rfl Tryz.call244 _ (args2 (hd 1 _ rfl rfl rfl (aj rfl)) (hd 3 _ rfl rfl rfl (aj rfl))) aR ((jD _ _ _ _ HP.out.2.1 HP.out.1 w2).mono ?_);rintro e w3 ⟨rfl,hb⟩;exact⟨_,rfl,rfl,hb⟩
  ·intro _ _ a w2 hB hF hd;refine aN <| aW (bB (m:=15) (k:=16) rfl (hF.same 4 rfl) aQ) ?_;exact rfl
  ·intro _ _ a w2 hB hF hd;exact aN <| aW (bW rfl (hd 5 _ rfl rfl rfl (aj rfl)) dB rfl bP (fun i hi=>(hB.cell (p:=⟨(w.heap.size+1),16+i,none⟩) hC.lt).trans (Ol hC i hi))) rfl
  ·intro _ _ a w2 hB hF hd;refine aN <| aW (bB (m:=15) (k:=0) rfl (hF.same 4 rfl) aQ) ?_;exact rfl
  ·intro _ _ a w2 hB hF hd;exact aN <| aW (bW rfl (hd 7 _ rfl rfl rfl (aj rfl)) dB rfl bP (fun i hi=>(hB.cell (p:=⟨(w.heap.size+1),0+i,none⟩) hC.lt).trans (KC hC i hi))) rfl
  ·intro _ _ a w2 hB hF hd;refine aN <| aI _ _ _ rfl Tryz.call244 _ (args2 (hd 6 _ rfl rfl rfl (aj rfl)) (hd 8 _ rfl rfl rfl (aj rfl))) aR ((jD _ _ _ _ HQ.out.2.1 HQ.out.1 w2).mono ?_);rintro e w3 ⟨rfl,hb⟩;exact⟨_,rfl,rfl,hb⟩
  ·intro _ _ a w2 hB hF hd;refine aN <| aI _ _ _ rfl Tryz.call203 _ (args2 (hd 4 _ rfl rfl rfl (aj rfl)) (hd 9 _ rfl rfl rfl (aj rfl))) aR ((bZ _ _ _ _ ((HP.out.2.1).fG HP.out.1) ((HQ.out.2.1).fG HQ.out.1) w2).mono ?_);rintro e w3 ⟨rfl,hb⟩;exact⟨_,rfl,rfl,hb⟩
 ·refine dG ?_;refine⟨(fun h=>by cases h),(fun h=>by cases h),(fun h=>by cases h),(fun h=>by cases h),(fun h=>by cases h),(fun h=>by cases h),(fun h=>by cases h),(fun h=>by cases h),(fun h=>by cases h),(fun h=>by cases h),(fun h=>by cases h),?_,(fun h=>by cases h),trivial⟩
  ·exact fun _=>⟨rfl,rfl,fun a w2 K h=>bD rfl rfl Tryz.zeroValue191 aR h⟩
 ·refine dG ?_;refine⟨(fun _ h=>by cases h),(fun _ h=>by cases h),(fun _ h=>by cases h),(fun _ h=>by cases h),(fun _ h=>by cases h),(fun _ h=>by cases h),(fun _ h=>by cases h),(fun _ h=>by cases h),(fun _ h=>by cases h),(fun _ h=>by cases h),(fun _ h=>by cases h),(fun _ h=>by cases h),?_,trivial⟩
  ·intro p hp;obtain rfl:11=p:=gJ hp;exact⟨rfl,rfl,⟨_,rfl⟩,aj rfl,fun a w2 b K hB hF hd hx hb h=>bQ rfl rfl bP hx (hd 10 _ rfl rfl rfl (aj rfl)) hb h⟩
 ·intro a w2 blk hB hF hS hv hfin dS;obtain⟨v11,BL,Wu⟩:=hv 11 _ rfl rfl;have ha:=aO rfl rfl hF [_,_,_,_,_,_,_,_,_,_,_,_,undef] rfl ⟨hS 0 _ rfl rfl rfl,hS 1 _ rfl rfl rfl,hS 2 _ rfl rfl rfl,hS 3 _ rfl rfl rfl,hS 4 _ rfl rfl rfl,hS 5 _ rfl rfl rfl,hS 6 _ rfl rfl rfl,hS 7 _ rfl rfl rfl,hS 8 _ rfl rfl rfl,hS 9 _ rfl rfl rfl,hS 10 _ rfl rfl rfl,v11,trivial,trivial⟩;have f11:=hfin 12 _ 11 rfl rfl;simp only[puts,Act.put,fB,fD,fF] at ha;subst ha;have V11:aK .i64 w2 (blk 11) 16 (aS (fG (g) (f)) (fG (v) (u))):=⟨_,f11⟩
  clear hS hv hfin dS hF v11 f11;replace hA:=hA.kept hB;replace hC:=hC.kept hB;replace hE:=hE.kept hB;replace hZ:=hZ.kept hB;obtain⟨baa,Pg⟩:∃x,x=blk 11:=⟨_,rfl⟩
  obtain⟨aa,haa,Xaa,VT⟩:∃x,x=aS (fG g f) (fG v u)/\∃N,Hid (Fe x N):=⟨_,rfl,_,(HP.out.2.1.fG HP.out.1).aS (HQ.out.2.1.fG HQ.out.1)⟩
  rw[<-haa,←Pg] at V11;rw[<-Pg] at BL ⊢;have laa:w.heap.size+4<=baa:=iw gP BL;have Kaa:=ay haa;replace aD:=aD.trans (hB.mono aD.size);replace gP:=iw gP hB.size;clear hB haa Pg;have lU:=V11;clear V11 BL Wu;go_upto_region 2 with(fail)
  refine bN (n:=77) aQ aQ aQ rfl
   (ku [(12,11)]) (gH [(12,11)]) (fun _=>arr .i64 16 (fun _=>0)) (fun _=>(arr .i64 16 (aS (dw (g) (f)) (dw (v) (u))))) (fun _=>191) (fun _=>8)
   (fun ii vv _=>(match ii with | 0=>vv=.pointer (some ⟨w.heap.size,16,none⟩) | 1=>vv=.agg (arr .i64 16 (g)) | 2=>vv=.pointer (some ⟨w.heap.size,0,none⟩) | 3=>vv=.agg (arr .i64 16 (f)) | 4=>vv=.agg (arr .i64 16 (dw (g) (f))) | 5=>vv=.pointer (some ⟨(w.heap.size+1),16,none⟩) | 6=>vv=.agg (arr .i64 16 (v)) | 7=>vv=.pointer (some ⟨(w.heap.size+1),0,none⟩) | 8=>vv=.agg (arr .i64 16 (u)) | 9=>vv=.agg (arr .i64 16 (dw (v) (u))) | 10=>vv=.agg (arr .i64 16 (aS (dw (g) (f)) (dw (v) (u)))) | _=>True)) (fun _ _=>True) (fun _ _ _=>trivial) (fun _ _ _ _ _ _ _=>trivial) (fun _ _ _ _ h _=>h)
   (iJ rfl) (fT rfl) ?_ ?_ ?_ ?_
  ·refine dG ?_;refine⟨?_,?_,?_,?_,?_,?_,?_,?_,?_,?_,?_,(fun h=>by cases h),(fun _ h=>by cases h),trivial⟩
   ·intro _ _ a w2 hB hF hd;refine aN <| aW (bB (m:=15) (k:=16) rfl (hF.same 3 rfl) aQ) ?_;exact rfl
   ·intro _ _ a w2 hB hF hd;exact aN <| aW (bW rfl (hd 0 _ rfl rfl rfl (aj rfl)) dB rfl bP (fun i hi=>(hB.cell (p:=⟨w.heap.size,16+i,none⟩) hA.lt).trans (Ol hA i hi))) rfl
   ·intro _ _ a w2 hB hF hd;refine aN <| aW (bB (m:=15) (k:=0) rfl (hF.same 3 rfl) aQ) ?_;exact rfl
   ·intro _ _ a w2 hB hF hd;exact aN <| aW (bW rfl (hd 2 _ rfl rfl rfl (aj rfl)) dB rfl bP (fun i hi=>(hB.cell (p:=⟨w.heap.size,0+i,none⟩) hA.lt).trans (KC hA i hi))) rfl
   ·intro _ _ a w2 hB hF hd;refine aN <| aI _ _ _ rfl Tryz.call218 _ (args2 (hd 1 _ rfl rfl rfl (aj rfl)) (hd 3 _ rfl rfl rfl (aj rfl))) aR ((iD _ _ _ _ HP.out.2.1 HP.out.1 w2).mono ?_);rintro e w3 ⟨rfl,hb⟩;exact⟨_,rfl,rfl,hb⟩
   ·intro _ _ a w2 hB hF hd;refine aN <| aW (bB (m:=15) (k:=16) rfl (hF.same 4 rfl) aQ) ?_;exact rfl
   ·intro _ _ a w2 hB hF hd;exact aN <| aW (bW rfl (hd 5 _ rfl rfl rfl (aj rfl)) dB rfl bP (fun i hi=>(hB.cell (p:=⟨(w.heap.size+1),16+i,none⟩) hC.lt).trans (Ol hC i hi))) rfl
   ·intro _ _ a w2 hB hF hd;refine aN <| aW (bB (m:=15) (k:=0) rfl (hF.same 4 rfl) aQ) ?_;exact rfl
   ·intro _ _ a w2 hB hF hd;exact aN <| aW (bW rfl (hd 7 _ rfl rfl rfl (aj rfl)) dB rfl bP (fun i hi=>(hB.cell (p:=⟨(w.heap.size+1),0+i,none⟩) hC.lt).trans (KC hC i hi))) rfl
   ·intro _ _ a w2 hB hF hd;refine aN <| aI _ _ _ rfl Tryz.call218 _ (args2 (hd 6 _ rfl rfl rfl (aj rfl)) (hd 8 _ rfl rfl rfl (aj rfl))) aR ((iD _ _ _ _ HQ.out.2.1 HQ.out.1 w2).mono ?_);rintro e w3 ⟨rfl,hb⟩;exact⟨_,rfl,rfl,hb⟩
   ·intro _ _ a w2 hB hF hd;refine aN <| aI _ _ _ rfl Tryz.call203 _ (args2 (hd 4 _ rfl rfl rfl (aj rfl)) (hd 9 _ rfl rfl rfl (aj rfl))) aR ((bZ _ _ _ _ ((HP.out.2.1).dw HP.out.1) ((HQ.out.2.1).dw HQ.out.1) w2).mono ?_);rintro e w3 ⟨rfl,hb⟩;exact⟨_,rfl,rfl,hb⟩
  ·refine dG ?_;refine⟨(fun h=>by cases h),(fun h=>by cases h),(fun h=>by cases h),(fun h=>by cases h),(fun h=>by cases h),(fun h=>by cases h),(fun h=>by cases h),(fun h=>by cases h),(fun h=>by cases h),(fun h=>by cases h),(fun h=>by cases h),?_,(fun h=>by cases h),trivial⟩
   ·exact fun _=>⟨rfl,rfl,fun a w2 K h=>bD rfl rfl Tryz.zeroValue191 aR h⟩
  ·refine dG ?_;refine⟨(fun _ h=>by cases h),(fun _ h=>by cases h),(fun _ h=>by cases h),(fun _ h=>by cases h),(fun _ h=>by cases h),(fun _ h=>by cases h),(fun _ h=>by cases h),(fun _ h=>by cases h),(fun _ h=>by cases h),(fun _ h=>by cases h),(fun _ h=>by cases h),(fun _ h=>by cases h),?_,trivial⟩
   ·intro p hp;obtain rfl:11=p:=gJ hp;exact⟨rfl,rfl,⟨_,rfl⟩,aj rfl,fun a w2 b K hB hF hd hx hb h=>bQ rfl rfl bP hx (hd 10 _ rfl rfl rfl (aj rfl)) hb h⟩
  ·intro a w3 blk hB hF hS hv hfin dS;obtain⟨v11,BL,Wu⟩:=hv 11 _ rfl rfl;have ha:=aO rfl rfl hF [_,_,_,_,_,_,_,_,_,_,_,_,undef] rfl ⟨hS 0 _ rfl rfl rfl,hS 1 _ rfl rfl rfl,hS 2 _ rfl rfl rfl,hS 3 _ rfl rfl rfl,hS 4 _ rfl rfl rfl,hS 5 _ rfl rfl rfl,hS 6 _ rfl rfl rfl,hS 7 _ rfl rfl rfl,hS 8 _ rfl rfl rfl,hS 9 _ rfl rfl rfl,hS 10 _ rfl rfl rfl,v11,trivial,trivial⟩;have f11:=hfin 12 _ 11 rfl rfl;simp only[puts,Act.put,fB,fD,fF] at ha;subst ha;have V11:aK .i64 w3 (blk 11) 16 (aS (dw (g) (f)) (dw (v) (u))):=⟨_,f11⟩
   clear hS hv hfin dS hF v11 f11;replace hA:=hA.kept hB;replace hC:=hC.kept hB;replace hE:=hE.kept hB;replace hZ:=hZ.kept hB;replace lU:=lU.kept hB;obtain⟨bbb,Pf⟩:∃x,x=blk 11:=⟨_,rfl⟩
   obtain⟨bb,hbb,Xbb,Hbb⟩:∃x,x=aS (dw g f) (dw v u)/\∃N,Hid (Fe x N):=⟨_,rfl,_,(HP.out.2.1.dw HP.out.1).aS (HQ.out.2.1.dw HQ.out.1)⟩
   rw[<-hbb,←Pf] at V11;rw[<-Pf] at BL ⊢;have lbb:w.heap.size+4<=bbb:=iw gP BL;have Kbb:=ay hbb;replace aD:=aD.trans (hB.mono aD.size);replace gP:=iw gP hB.size;clear hB hbb Pf;have nW:=V11;clear V11 BL Wu;go_upto_region 3 with(fail)
   refine bN (n:=77) aQ aQ aQ rfl
    (ku [(8,7)]) (gH [(8,7)]) (fun _=>arr .i64 16 (fun _=>0)) (fun _=>(arr .i64 16 (aS (aS (e) (s)) (d)))) (fun _=>191) (fun _=>9)
    (fun ii vv _=>(match ii with | 0=>vv=.pointer (some ⟨w.heap.size,48,none⟩) | 1=>vv=.agg (arr .i64 16 (e)) | 2=>vv=.pointer (some ⟨(w.heap.size+1),48,none⟩) | 3=>vv=.agg (arr .i64 16 (s)) | 4=>vv=.agg (arr .i64 16 (aS (e) (s))) | 5=>vv=.agg (arr .i64 16 (d)) | 6=>vv=.agg (arr .i64 16 (aS (aS (e) (s)) (d))) | _=>True)) (fun _ _=>True) (fun _ _ _=>trivial) (fun _ _ _ _ _ _ _=>trivial) (fun _ _ _ _ h _=>h)
    (iJ rfl) (fT rfl) ?_ ?_ ?_ ?_
   ·refine dG ?_;refine⟨?_,?_,?_,?_,?_,?_,?_,(fun h=>by cases h),(fun _ h=>by cases h),trivial⟩
    ·intro _ _ a w2 hB hF hd;refine aN <| aW (bB (m:=15) (k:=48) rfl (hF.same 3 rfl) aQ) ?_;exact rfl
    ·intro _ _ a w2 hB hF hd;exact aN <| aW (bW rfl (hd 0 _ rfl rfl rfl (aj rfl)) dB rfl bP (fun i hi=>(hB.cell (p:=⟨w.heap.size,48+i,none⟩) hA.lt).trans (abP hA i hi))) rfl
    ·intro _ _ a w2 hB hF hd;refine aN <| aW (bB (m:=15) (k:=48) rfl (hF.same 4 rfl) aQ) ?_;exact rfl
    ·intro _ _ a w2 hB hF hd;exact aN <| aW (bW rfl (hd 2 _ rfl rfl rfl (aj rfl)) dB rfl bP (fun i hi=>(hB.cell (p:=⟨(w.heap.size+1),48+i,none⟩) hC.lt).trans (abP hC i hi))) rfl
    ·intro _ _ a w2 hB hF hd;refine aN <| aI _ _ _ rfl Tryz.call203 _ (args2 (hd 1 _ rfl rfl rfl (aj rfl)) (hd 3 _ rfl rfl rfl (aj rfl))) aR ((bZ _ _ _ _ HP.out.2.2.2 HQ.out.2.2.2 w2).mono ?_);rintro e w3 ⟨rfl,hb⟩;exact⟨_,rfl,rfl,hb⟩
    ·intro _ _ a w2 hB hF hd;exact aN <| aW (aF rfl dB rfl bP (hF.same 5 rfl) (hE.below hB hE.lt)) rfl
    ·intro _ _ a w2 hB hF hd;refine aN <| aI _ _ _ rfl Tryz.call203 _ (args2 (hd 4 _ rfl rfl rfl (aj rfl)) (hd 5 _ rfl rfl rfl (aj rfl))) aR ((bZ _ _ _ _ ((HP.out.2.2.2).aS HQ.out.2.2.2) HD.out w2).mono ?_);rintro e w3 ⟨rfl,hb⟩;exact⟨_,rfl,rfl,hb⟩
   ·refine dG ?_;refine⟨(fun h=>by cases h),(fun h=>by cases h),(fun h=>by cases h),(fun h=>by cases h),(fun h=>by cases h),(fun h=>by cases h),(fun h=>by cases h),?_,(fun h=>by cases h),trivial⟩
    ·exact fun _=>⟨rfl,rfl,fun a w2 K h=>bD rfl rfl Tryz.zeroValue191 aR h⟩
   ·refine dG ?_;refine⟨(fun _ h=>by cases h),(fun _ h=>by cases h),(fun _ h=>by cases h),(fun _ h=>by cases h),(fun _ h=>by cases h),(fun _ h=>by cases h),(fun _ h=>by cases h),(fun _ h=>by cases h),?_,trivial⟩
    ·intro p hp;obtain rfl:7=p:=gJ hp;exact⟨rfl,rfl,⟨_,rfl⟩,aj rfl,fun a w2 b K hB hF hd hx hb h=>bQ rfl rfl bP hx (hd 6 _ rfl rfl rfl (aj rfl)) hb h⟩
   ·intro a w4 blk hB hF hS hv hfin dS;obtain⟨v7,Gu,v7u⟩:=hv 7 _ rfl rfl;have ha:=aO rfl rfl hF [_,_,_,_,_,_,_,_,undef] rfl ⟨hS 0 _ rfl rfl rfl,hS 1 _ rfl rfl rfl,hS 2 _ rfl rfl rfl,hS 3 _ rfl rfl rfl,hS 4 _ rfl rfl rfl,hS 5 _ rfl rfl rfl,hS 6 _ rfl rfl rfl,v7,trivial,trivial⟩;have f7:=hfin 8 _ 7 rfl rfl;simp only[puts,Act.put,fB,fD,fF] at ha;subst ha;have V7:aK .i64 w4 (blk 7) 16 (aS (aS (e) (s)) (d)):=⟨_,f7⟩
    clear hS hv hfin dS hF v7 f7;replace hA:=hA.kept hB;replace hC:=hC.kept hB;replace hE:=hE.kept hB;replace hZ:=hZ.kept hB;replace lU:=lU.kept hB;replace nW:=nW.kept hB;obtain⟨bcc,ahc⟩:∃x,x=blk 7:=⟨_,rfl⟩
    obtain⟨cc,hcc,Xcc,Hcc⟩:∃x,x=aS (aS e s) d/\∃N,Hid (Fe x N):=⟨_,rfl,_,(HP.out.2.2.2.aS HQ.out.2.2.2).aS HD.out⟩
    rw[<-hcc,←ahc] at V7;rw[<-ahc] at Gu ⊢;have lcc:w.heap.size+4<=bcc:=iw gP Gu;have Kcc:=ay hcc;replace aD:=aD.trans (hB.mono aD.size);replace gP:=iw gP hB.size;clear hB hcc ahc;have CQ:=V7;clear V7 Gu v7u;go_upto_region 4 with(fail)
    refine bN (n:=77) aQ aQ aQ rfl
     (ku [(6,5)]) (gH [(6,5)]) (fun _=>arr .i64 16 (fun _=>0)) (fun _=>(arr .i64 16 (aS (h) (r)))) (fun _=>191) (fun _=>10)
     (fun ii vv _=>(match ii with | 0=>vv=.pointer (some ⟨w.heap.size,32,none⟩) | 1=>vv=.agg (arr .i64 16 (h)) | 2=>vv=.pointer (some ⟨(w.heap.size+1),32,none⟩) | 3=>vv=.agg (arr .i64 16 (r)) | 4=>vv=.agg (arr .i64 16 (aS (h) (r))) | _=>True)) (fun _ _=>True) (fun _ _ _=>trivial) (fun _ _ _ _ _ _ _=>trivial) (fun _ _ _ _ h _=>h)
     (iJ rfl) (fT rfl) ?_ ?_ ?_ ?_
    ·refine dG ?_;refine⟨?_,?_,?_,?_,?_,(fun h=>by cases h),(fun _ h=>by cases h),trivial⟩
     ·intro _ _ a w2 hB hF hd;refine aN <| aW (bB (m:=15) (k:=32) rfl (hF.same 3 rfl) aQ) ?_;exact rfl
     ·intro _ _ a w2 hB hF hd;exact aN <| aW (bW rfl (hd 0 _ rfl rfl rfl (aj rfl)) dB rfl bP (fun i hi=>(hB.cell (p:=⟨w.heap.size,32+i,none⟩) hA.lt).trans (Tf hA i hi))) rfl
     ·intro _ _ a w2 hB hF hd;refine aN <| aW (bB (m:=15) (k:=32) rfl (hF.same 4 rfl) aQ) ?_;exact rfl
     ·intro _ _ a w2 hB hF hd;exact aN <| aW (bW rfl (hd 2 _ rfl rfl rfl (aj rfl)) dB rfl bP (fun i hi=>(hB.cell (p:=⟨(w.heap.size+1),32+i,none⟩) hC.lt).trans (Tf hC i hi))) rfl
     ·intro _ _ a w2 hB hF hd;refine aN <| aI _ _ _ rfl Tryz.call203 _ (args2 (hd 1 _ rfl rfl rfl (aj rfl)) (hd 3 _ rfl rfl rfl (aj rfl))) aR ((bZ _ _ _ _ HP.out.2.2.1 HQ.out.2.2.1 w2).mono ?_);rintro e w3 ⟨rfl,hb⟩;exact⟨_,rfl,rfl,hb⟩
    ·refine dG ?_;refine⟨(fun h=>by cases h),(fun h=>by cases h),(fun h=>by cases h),(fun h=>by cases h),(fun h=>by cases h),?_,(fun h=>by cases h),trivial⟩
     ·exact fun _=>⟨rfl,rfl,fun a w2 K h=>bD rfl rfl Tryz.zeroValue191 aR h⟩
    ·refine dG ?_;refine⟨(fun _ h=>by cases h),(fun _ h=>by cases h),(fun _ h=>by cases h),(fun _ h=>by cases h),(fun _ h=>by cases h),(fun _ h=>by cases h),?_,trivial⟩
     ·intro p hp;obtain rfl:5=p:=gJ hp;exact⟨rfl,rfl,⟨_,rfl⟩,aj rfl,fun a w2 b K hB hF hd hx hb h=>bQ rfl rfl bP hx (hd 4 _ rfl rfl rfl (aj rfl)) hb h⟩
    ·intro a w5 blk hB hF hS hv hfin dS;obtain⟨v5,Jt,v5u⟩:=hv 5 _ rfl rfl;have ha:=aO rfl rfl hF [_,_,_,_,_,_,undef] rfl ⟨hS 0 _ rfl rfl rfl,hS 1 _ rfl rfl rfl,hS 2 _ rfl rfl rfl,hS 3 _ rfl rfl rfl,hS 4 _ rfl rfl rfl,v5,trivial,trivial⟩;have f5:=hfin 6 _ 5 rfl rfl;simp only[puts,Act.put,fB,fD,fF] at ha;subst ha;have V5:aK .i64 w5 (blk 5) 16 (aS (h) (r)):=⟨_,f5⟩
     clear hS hv hfin dS hF v5 f5;have aea:=lU.lt;have adZ:=nW.lt;have adY:=CQ.lt;replace hA:=hA.kept hB;replace hC:=hC.kept hB;replace hE:=hE.kept hB;replace hZ:=hZ.kept hB;replace lU:=lU.kept hB;replace nW:=nW.kept hB;replace CQ:=CQ.kept hB;obtain⟨bdd,aha⟩:∃x,x=blk 5:=⟨_,rfl⟩
     obtain⟨dd,hdd,Xdd,Hdd⟩:∃x,x=aS h r/\∃N,Hid (Fe x N):=⟨_,rfl,_,HP.out.2.2.1.aS HQ.out.2.2.1⟩
     rw[<-hdd,←aha] at V5;rw[<-aha] at Jt ⊢;have ldd:w.heap.size+4<=bdd:=iw gP Jt;have Kdd:=ay hdd;have zaa:baa<bdd:=qZ aea Jt;have zbb:bbb<bdd:=qZ adZ Jt;have zcc:bcc<bdd:=qZ adY Jt;clear aea adZ adY;replace aD:=aD.trans (hB.mono aD.size);replace gP:=iw gP hB.size;clear hB hdd aha;have Ud:=V5;clear V5 Jt v5u;go_upto_region 5 with(fail)
     refine dJ (n:=77) (fun i=>i==3) aQ aQ aQ aQ rfl
      (fun ii vv _=>(match ii with | 0 | 1=>vv=.agg (arr .i64 16 (dd)) | 2=>vv=.agg (arr .i64 16 (dw (dd) (dd))) | _=>True))
      (fun w w'=>Below w.heap.size w w') (fun _ _ h=>h) (fun _ _ _ _ h _=>h)
      (fun _=>bdd) (fun _=>(arr .i64 16 (dd))) (fun _=>(arr .i64 16 (dw (dd) (dd))))
      (by intro i j _ _ dD jJ gW;simp only[beq_iff_eq] at dD jJ;omega)
      (by intro i _ dD;exact(Ud).row)
      ?_ ?_ ?_
     ·refine dG ?_;refine⟨?_,?_,?_,(aP),trivial⟩
      ·intro _ a w2 hB hF hd;exact aN <| aW (aF rfl dB rfl bP (hF.same 10 rfl) (Ud.below hB Ud.lt)) rfl
      ·intro _ a w2 hB hF hd;exact aN <| aW (aF rfl dB rfl bP (hF.same 10 rfl) (Ud.below hB Ud.lt)) rfl
      ·intro _ a w2 hB hF hd;refine aN <| aI _ _ _ rfl Tryz.call218 _ (args2 (hd 0 _ rfl rfl (aj rfl)) (hd 1 _ rfl rfl (aj rfl))) aR ((iD _ _ _ _ Hdd.out Hdd.out w2).mono ?_);rintro e w3 ⟨rfl,hb⟩;exact⟨_,rfl,rfl,hb⟩
     ·refine dG ?_;refine⟨(aP),(aP),(aP),?_,trivial⟩
      ·intro _ a w1 w2 K hB hF hS hr hK;exact bG 191 _ _ rfl .i64 (bdd) 16 (dd) (dw (dd) (dd)) bP (hF.same 10 rfl) (hS 2 _ rfl rfl) hr hK
     ·intro a wf w6 hB hF hS hfil;have other:∀{k:IntKind} {qb n:Nat} {f:Nat->Int},qb≠bdd->aK k wf qb n f->aK k w6 qb n f:=fun {k qb n f} e0 hA=>hfil.arr (by intro i _ dD;simp only[kZ,beq_iff_eq] at dD;subst dD<;> ((try simp only[]);(try dsimp only);omega)) hA;have dU:∀{B:Nat} {w0:World},B<=bdd->Below B w0 wf->Below B w0 w6:=fun {B w0} e0 hA=>hfil.below (by intro i _ dD;simp only[kZ,beq_iff_eq] at dD;subst dD<;> ((try simp only[]);(try dsimp only);omega)) hA;have V3:aK .i64 w6 (bdd) 16 (dw (dd) (dd)):=hfil.at 3 aM rfl;have tO:=hfil.size;clear hfil;have ha:=aO rfl rfl hF [_,_,_,undef] rfl ⟨hS 0 _ rfl rfl,hS 1 _ rfl rfl,hS 2 _ rfl rfl,trivial,trivial⟩;simp only[puts,Act.put,fB,fD,fF] at ha;subst ha;clear hS hF;replace hA:=other aH (hA.kept hB);replace hC:=other aH (hC.kept hB);replace hE:=other aH (hE.kept hB);replace hZ:=other aH (hZ.kept hB);replace lU:=other aH (lU.kept hB);replace nW:=other aH (nW.kept hB);replace CQ:=other aH (CQ.kept hB);replace aD:=dU aH (aD.trans (hB.mono aD.size));obtain⟨d2,hd2,Xd2,Hd2⟩:∃x,x=dw dd dd/\∃N,Hid (Fe x N):=⟨_,rfl,_,Hdd.out.dw Hdd.out⟩
      rw[<-hd2] at V3;have Kd2:=ay hd2;have Uf:=V3;replace gP:w.heap.size+4<=w6.heap.size:=by have:=hZ.lt;omega
      clear hB other dU tO Ud V3 hd2;go_upto_region 6 with(fail)
      refine bN (n:=77) aQ aQ aQ rfl
       (ku [(16,12),(17,13),(18,14),(19,15)]) (gH [(16,12),(17,13),(18,14),(19,15)]) (fun _=>arr .i64 16 (fun _=>0)) (fun i=>match i with | 12=>(arr .i64 16 (fG (bb) (aa))) | 13=>(arr .i64 16 (fG (d2) (cc))) | 14=>(arr .i64 16 (dw (d2) (cc))) | 15=>(arr .i64 16 (dw (bb) (aa))) | _=> #[]) (fun _=>191) (fun i=>match i with | 12=>11 | 13=>12 | 14=>13 | 15=>14 | _=>0)
       (fun ii vv _=>(match ii with | 0 | 9=>vv=.agg (arr .i64 16 (bb)) | 1 | 10=>vv=.agg (arr .i64 16 (aa)) | 2=>vv=.agg (arr .i64 16 (fG (bb) (aa))) | 3 | 6=>vv=.agg (arr .i64 16 (d2)) | 4 | 7=>vv=.agg (arr .i64 16 (cc)) | 5=>vv=.agg (arr .i64 16 (fG (d2) (cc))) | 8=>vv=.agg (arr .i64 16 (dw (d2) (cc))) | 11=>vv=.agg (arr .i64 16 (dw (bb) (aa))) | _=>True)) (fun _ _=>True) (fun _ _ _=>trivial) (fun _ _ _ _ _ _ _=>trivial) (fun _ _ _ _ h _=>h)
       (iJ rfl) (fT rfl) ?_ ?_ ?_ ?_
      ·refine dG ?_;refine⟨?_,?_,?_,?_,?_,?_,?_,?_,?_,?_,?_,?_,(fun h=>by cases h),(fun h=>by cases h),(fun h=>by cases h),(fun h=>by cases h),(fun _ h=>by cases h),(fun _ h=>by cases h),(fun _ h=>by cases h),(fun _ h=>by cases h),trivial⟩
       ·intro _ _ a w2 hB hF hd;exact aN <| aW (aF rfl dB rfl bP (hF.same 8 rfl) (nW.below hB nW.lt)) rfl
       ·intro _ _ a w2 hB hF hd;exact aN <| aW (aF rfl dB rfl bP (hF.same 7 rfl) (lU.below hB lU.lt)) rfl
       ·intro _ _ a w2 hB hF hd;refine aN <| aI _ _ _ rfl Tryz.call244 _ (args2 (hd 0 _ rfl rfl rfl (aj rfl)) (hd 1 _ rfl rfl rfl (aj rfl))) aR ((jD _ _ _ _ Hbb.out VT.out w2).mono ?_);rintro e w3 ⟨rfl,hb⟩;exact⟨_,rfl,rfl,hb⟩
       ·intro _ _ a w2 hB hF hd;exact aN <| aW (aF rfl dB rfl bP (hF.same 10 rfl) (Uf.below hB Uf.lt)) rfl
       ·intro _ _ a w2 hB hF hd;exact aN <| aW (aF rfl dB rfl bP (hF.same 9 rfl) (CQ.below hB CQ.lt)) rfl
       ·intro _ _ a w2 hB hF hd;refine aN <| aI _ _ _ rfl Tryz.call244 _ (args2 (hd 3 _ rfl rfl rfl (aj rfl)) (hd 4 _ rfl rfl rfl (aj rfl))) aR ((jD _ _ _ _ Hd2.out Hcc.out w2).mono ?_);rintro e w3 ⟨rfl,hb⟩;exact⟨_,rfl,rfl,hb⟩
       ·intro _ _ a w2 hB hF hd;exact aN <| aW (aF rfl dB rfl bP (hF.same 10 rfl) (Uf.below hB Uf.lt)) rfl
       ·intro _ _ a w2 hB hF hd;exact aN <| aW (aF rfl dB rfl bP (hF.same 9 rfl) (CQ.below hB CQ.lt)) rfl
       ·intro _ _ a w2 hB hF hd;refine aN <| aI _ _ _ rfl Tryz.call218 _ (args2 (hd 6 _ rfl rfl rfl (aj rfl)) (hd 7 _ rfl rfl rfl (aj rfl))) aR ((iD _ _ _ _ Hd2.out Hcc.out w2).mono ?_);rintro e w3 ⟨rfl,hb⟩;exact⟨_,rfl,rfl,hb⟩
       ·intro _ _ a w2 hB hF hd;exact aN <| aW (aF rfl dB rfl bP (hF.same 8 rfl) (nW.below hB nW.lt)) rfl
       ·intro _ _ a w2 hB hF hd;exact aN <| aW (aF rfl dB rfl bP (hF.same 7 rfl) (lU.below hB lU.lt)) rfl
       ·intro _ _ a w2 hB hF hd;refine aN <| aI _ _ _ rfl Tryz.call218 _ (args2 (hd 9 _ rfl rfl rfl (aj rfl)) (hd 10 _ rfl rfl rfl (aj rfl))) aR ((iD _ _ _ _ Hbb.out VT.out w2).mono ?_);rintro e w3 ⟨rfl,hb⟩;exact⟨_,rfl,rfl,hb⟩
      ·refine dG ?_;refine⟨(fun h=>by cases h),(fun h=>by cases h),(fun h=>by cases h),(fun h=>by cases h),(fun h=>by cases h),(fun h=>by cases h),(fun h=>by cases h),(fun h=>by cases h),(fun h=>by cases h),(fun h=>by cases h),(fun h=>by cases h),(fun h=>by cases h),?_,?_,?_,?_,(fun h=>by cases h),(fun h=>by cases h),(fun h=>by cases h),(fun h=>by cases h),trivial⟩
       ·exact fun _=>⟨rfl,rfl,fun a w2 K h=>bD rfl rfl Tryz.zeroValue191 aR h⟩
       ·exact fun _=>⟨rfl,rfl,fun a w2 K h=>bD rfl rfl Tryz.zeroValue191 aR h⟩
       ·exact fun _=>⟨rfl,rfl,fun a w2 K h=>bD rfl rfl Tryz.zeroValue191 aR h⟩
       ·exact fun _=>⟨rfl,rfl,fun a w2 K h=>bD rfl rfl Tryz.zeroValue191 aR h⟩
      ·refine dG ?_;refine⟨(fun _ h=>by cases h),(fun _ h=>by cases h),(fun _ h=>by cases h),(fun _ h=>by cases h),(fun _ h=>by cases h),(fun _ h=>by cases h),(fun _ h=>by cases h),(fun _ h=>by cases h),(fun _ h=>by cases h),(fun _ h=>by cases h),(fun _ h=>by cases h),(fun _ h=>by cases h),(fun _ h=>by cases h),(fun _ h=>by cases h),(fun _ h=>by cases h),(fun _ h=>by cases h),?_,?_,?_,?_,trivial⟩
       ·intro p hp;obtain rfl:12=p:=gJ hp;exact⟨rfl,rfl,⟨_,rfl⟩,aj rfl,fun a w2 b K hB hF hd hx hb h=>bQ rfl rfl bP hx (hd 2 _ rfl rfl rfl (aj rfl)) hb h⟩
       ·intro p hp;obtain rfl:13=p:=gJ hp;exact⟨rfl,rfl,⟨_,rfl⟩,aj rfl,fun a w2 b K hB hF hd hx hb h=>bQ rfl rfl bP hx (hd 5 _ rfl rfl rfl (aj rfl)) hb h⟩
       ·intro p hp;obtain rfl:14=p:=gJ hp;exact⟨rfl,rfl,⟨_,rfl⟩,aj rfl,fun a w2 b K hB hF hd hx hb h=>bQ rfl rfl bP hx (hd 8 _ rfl rfl rfl (aj rfl)) hb h⟩
       ·intro p hp;obtain rfl:15=p:=gJ hp;exact⟨rfl,rfl,⟨_,rfl⟩,aj rfl,fun a w2 b K hB hF hd hx hb h=>bQ rfl rfl bP hx (hd 11 _ rfl rfl rfl (aj rfl)) hb h⟩
      ·intro a w7 blk hB hF hS hv hfin dS;obtain⟨v12,afe,aoF⟩:=hv 12 _ rfl rfl;obtain⟨v13,afd,aoE⟩:=hv 13 _ rfl rfl;obtain⟨v14,afc,aoD⟩:=hv 14 _ rfl rfl;obtain⟨v15,afb,aoC⟩:=hv 15 _ rfl rfl;have ha:=aO rfl rfl hF [_,_,_,_,_,_,_,_,_,_,_,_,_,_,_,_,undef,undef,undef,undef] rfl ⟨hS 0 _ rfl rfl rfl,hS 1 _ rfl rfl rfl,hS 2 _ rfl rfl rfl,hS 3 _ rfl rfl rfl,hS 4 _ rfl rfl rfl,hS 5 _ rfl rfl rfl,hS 6 _ rfl rfl rfl,hS 7 _ rfl rfl rfl,hS 8 _ rfl rfl rfl,hS 9 _ rfl rfl rfl,hS 10 _ rfl rfl rfl,hS 11 _ rfl rfl rfl,v12,v13,v14,v15,trivial,trivial,trivial,trivial,trivial⟩;have f12:=hfin 16 _ 12 rfl rfl;have f13:=hfin 17 _ 13 rfl rfl;have f14:=hfin 18 _ 14 rfl rfl;have f15:=hfin 19 _ 15 rfl rfl;have aqc:=dS 12 13 _ _ rfl rfl rfl rfl aM;have aqb:=dS 12 14 _ _ rfl rfl rfl rfl aM;have aqa:=dS 12 15 _ _ rfl rfl rfl rfl aM;have apZ:=dS 13 14 _ _ rfl rfl rfl rfl aM;have apY:=dS 13 15 _ _ rfl rfl rfl rfl aM;have apX:=dS 14 15 _ _ rfl rfl rfl rfl aM;simp only[puts,Act.put,fB,fD,fF] at ha;subst ha;have V12:aK .i64 w7 (blk 12) 16 (fG (bb) (aa)):=⟨_,f12⟩
       have V13:aK .i64 w7 (blk 13) 16 (fG (d2) (cc)):=⟨_,f13⟩
       have V14:aK .i64 w7 (blk 14) 16 (dw (d2) (cc)):=⟨_,f14⟩
       have V15:aK .i64 w7 (blk 15) 16 (dw (bb) (aa)):=⟨_,f15⟩
       clear hS hv hfin dS hF v12 v13 v14 v15 f12 f13 f14 f15;replace hA:=hA.kept hB;replace hC:=hC.kept hB;replace hE:=hE.kept hB;replace hZ:=hZ.kept hB;replace lU:=lU.kept hB;replace nW:=nW.kept hB;replace CQ:=CQ.kept hB;replace Uf:=Uf.kept hB;obtain⟨bee,Pe⟩:∃x,x=blk 12:=⟨_,rfl⟩
       obtain⟨ee,hee,Xee,Hee⟩:∃x,x=fG bb aa/\∃N,Hid (Fe x N):=⟨_,rfl,_,Hbb.out.fG VT.out⟩
       rw[<-hee,←Pe] at V12;rw[<-Pe] at afe ⊢;have lee:w.heap.size+4<=bee:=iw gP afe;have Kee:=ay hee;obtain⟨bff,agY⟩:∃x,x=blk 13:=⟨_,rfl⟩
       obtain⟨ff,hff,Xff,Hff⟩:∃x,x=fG d2 cc/\∃N,Hid (Fe x N):=⟨_,rfl,_,Hd2.out.fG Hcc.out⟩
       rw[<-hff,←agY] at V13;rw[<-agY] at afd ⊢;have lff:w.heap.size+4<=bff:=iw gP afd;have Kff:=ay hff;obtain⟨bgg,agX⟩:∃x,x=blk 14:=⟨_,rfl⟩
       obtain⟨gg,hgg,Xgg,Hgg⟩:∃x,x=dw d2 cc/\∃N,Hid (Fe x N):=⟨_,rfl,_,Hd2.out.dw Hcc.out⟩
       rw[<-hgg,←agX] at V14;rw[<-agX] at afc ⊢;have lgg:w.heap.size+4<=bgg:=iw gP afc;have Kgg:=ay hgg;obtain⟨bhh,agW⟩:∃x,x=blk 15:=⟨_,rfl⟩
       obtain⟨hh,hhh,Xhh,Hhh⟩:∃x,x=dw bb aa/\∃N,Hid (Fe x N):=⟨_,rfl,_,Hbb.out.dw VT.out⟩
       rw[<-hhh,←agW] at V15;rw[<-agW] at afb ⊢;have lhh:w.heap.size+4<=bhh:=iw gP afb;have Khh:=ay hhh;replace aD:=aD.trans (hB.mono aD.size);replace gP:=iw gP hB.size;clear hB hee Pe hff agY hgg agX hhh agW;have zk:=V12;clear V12 afe aoF;have acP:=V13;clear V13 afd aoE;have acO:=V14;clear V14 afc aoD;have acN:=V15;clear V15 afb aoC;go_upto_region 7 with(fail)
       refine dJ (n:=77) (fun i=>i==13) aQ aQ aQ aQ rfl
        (fun ii vv _=>(match ii with | 0 | 9=>vv=.agg (arr .i64 16 (ee)) | 1 | 6=>vv=.agg (arr .i64 16 (ff)) | 2=>vv=.agg (arr .i64 16 (aS (ee) (ff))) | 3 | 7=>vv=.agg (arr .i64 16 (gg)) | 4 | 10=>vv=.agg (arr .i64 16 (hh)) | 5=>vv=.agg (arr .i64 16 (aS (gg) (hh))) | 8=>vv=.agg (arr .i64 16 (aS (ff) (gg))) | 11=>vv=.agg (arr .i64 16 (aS (ee) (hh))) | 12=>vv=.agg (arr .i64 64 (pt (aS (ee) (ff)) (aS (gg) (hh)) (aS (ff) (gg)) (aS (ee) (hh)))) | _=>True))
        (fun w w'=>Below w.heap.size w w') (fun _ _ h=>h) (fun _ _ _ _ h _=>h)
        (fun _=>(w.heap.size+3)) (fun _=>(arr .i64 64 (fun _=>0))) (fun _=>(arr .i64 64 (pt (aS (ee) (ff)) (aS (gg) (hh)) (aS (ff) (gg)) (aS (ee) (hh)))))
        (by intro i j _ _ dD jJ gW;simp only[beq_iff_eq] at dD jJ;omega)
        (by intro i _ dD;exact(hZ).row)
        ?_ ?_ ?_
       ·refine dG ?_;refine⟨?_,?_,?_,?_,?_,?_,?_,?_,?_,?_,?_,?_,?_,(aP),trivial⟩
        ·intro _ a w2 hB hF hd;exact aN <| aW (aF rfl dB rfl bP (hF.same 11 rfl) (zk.below hB zk.lt)) rfl
        ·intro _ a w2 hB hF hd;exact aN <| aW (aF rfl dB rfl bP (hF.same 12 rfl) (acP.below hB acP.lt)) rfl
        ·intro _ a w2 hB hF hd;refine aN <| aI _ _ _ rfl Tryz.call203 _ (args2 (hd 0 _ rfl rfl (aj rfl)) (hd 1 _ rfl rfl (aj rfl))) aR ((bZ _ _ _ _ Hee.out Hff.out w2).mono ?_);rintro e w3 ⟨rfl,hb⟩;exact⟨_,rfl,rfl,hb⟩
        ·intro _ a w2 hB hF hd;exact aN <| aW (aF rfl dB rfl bP (hF.same 13 rfl) (acO.below hB acO.lt)) rfl
        ·intro _ a w2 hB hF hd;exact aN <| aW (aF rfl dB rfl bP (hF.same 14 rfl) (acN.below hB acN.lt)) rfl
        ·intro _ a w2 hB hF hd;refine aN <| aI _ _ _ rfl Tryz.call203 _ (args2 (hd 3 _ rfl rfl (aj rfl)) (hd 4 _ rfl rfl (aj rfl))) aR ((bZ _ _ _ _ Hgg.out Hhh.out w2).mono ?_);rintro e w3 ⟨rfl,hb⟩;exact⟨_,rfl,rfl,hb⟩
        ·intro _ a w2 hB hF hd;exact aN <| aW (aF rfl dB rfl bP (hF.same 12 rfl) (acP.below hB acP.lt)) rfl
        ·intro _ a w2 hB hF hd;exact aN <| aW (aF rfl dB rfl bP (hF.same 13 rfl) (acO.below hB acO.lt)) rfl
        ·intro _ a w2 hB hF hd;refine aN <| aI _ _ _ rfl Tryz.call203 _ (args2 (hd 6 _ rfl rfl (aj rfl)) (hd 7 _ rfl rfl (aj rfl))) aR ((bZ _ _ _ _ Hff.out Hgg.out w2).mono ?_);rintro e w3 ⟨rfl,hb⟩;exact⟨_,rfl,rfl,hb⟩
        ·intro _ a w2 hB hF hd;exact aN <| aW (aF rfl dB rfl bP (hF.same 11 rfl) (zk.below hB zk.lt)) rfl
        ·intro _ a w2 hB hF hd;exact aN <| aW (aF rfl dB rfl bP (hF.same 14 rfl) (acN.below hB acN.lt)) rfl
        ·intro _ a w2 hB hF hd;refine aN <| aI _ _ _ rfl Tryz.call203 _ (args2 (hd 9 _ rfl rfl (aj rfl)) (hd 10 _ rfl rfl (aj rfl))) aR ((bZ _ _ _ _ Hee.out Hhh.out w2).mono ?_);rintro e w3 ⟨rfl,hb⟩;exact⟨_,rfl,rfl,hb⟩
        ·intro _ a w2 hB hF hd;exact aN <| aW (fK rfl (by simp only[vT,List.map_cons,List.map_nil,show a.eval (Operand.tmp 66)=.agg (arr .i64 16 (aS (ee) (ff))) from(hd 2 _ rfl rfl (aj rfl)),show a.eval (Operand.tmp 69)=.agg (arr .i64 16 (aS (gg) (hh))) from(hd 5 _ rfl rfl (aj rfl)),show a.eval (Operand.tmp 72)=.agg (arr .i64 16 (aS (ff) (gg))) from(hd 8 _ rfl rfl (aj rfl)),show a.eval (Operand.tmp 75)=.agg (arr .i64 16 (aS (ee) (hh))) from(hd 11 _ rfl rfl (aj rfl))];exact MN _ _ _ _ _)) rfl
       ·refine dG ?_;refine⟨(aP),(aP),(aP),(aP),(aP),(aP),(aP),(aP),(aP),(aP),(aP),(aP),(aP),?_,trivial⟩
        ·intro _ a w1 w2 K hB hF hS hr hK;exact bG 193 _ _ rfl .i64 ((w.heap.size+3)) 64 (fun _=>0) (pt (aS (ee) (ff)) (aS (gg) (hh)) (aS (ff) (gg)) (aS (ee) (hh))) Tryz.size193 (hF.same 6 rfl) (hS 12 _ rfl rfl) hr hK
       ·intro a wf w8 hB hF hS hfil;have other:∀{k:IntKind} {qb n:Nat} {f:Nat->Int},qb≠(w.heap.size+3)->aK k wf qb n f->aK k w8 qb n f:=fun {k qb n f} e0 hA=>hfil.arr (by intro i _ dD;simp only[kZ,beq_iff_eq] at dD;subst dD<;> ((try simp only[]);(try dsimp only);omega)) hA;have dU:∀{B:Nat} {w0:World},B<=(w.heap.size+3)->Below B w0 wf->Below B w0 w8:=fun {B w0} e0 hA=>hfil.below (by intro i _ dD;simp only[kZ,beq_iff_eq] at dD;subst dD<;> ((try simp only[]);(try dsimp only);omega)) hA;have V13:aK .i64 w8 ((w.heap.size+3)) 64 (pt (aS (ee) (ff)) (aS (gg) (hh)) (aS (ff) (gg)) (aS (ee) (hh))):=hfil.at 13 aM rfl;have tO:=hfil.size;clear hfil;have ha:=aO rfl rfl hF [_,_,_,_,_,_,_,_,_,_,_,_,_,undef] rfl ⟨hS 0 _ rfl rfl,hS 1 _ rfl rfl,hS 2 _ rfl rfl,hS 3 _ rfl rfl,hS 4 _ rfl rfl,hS 5 _ rfl rfl,hS 6 _ rfl rfl,hS 7 _ rfl rfl,hS 8 _ rfl rfl,hS 9 _ rfl rfl,hS 10 _ rfl rfl,hS 11 _ rfl rfl,hS 12 _ rfl rfl,trivial,trivial⟩;simp only[puts,Act.put,fB,fD,fF] at ha;subst ha;clear hS hF;have hb:=dU aH (aD.trans (hB.mono aD.size));go_wp2;have hfin:pt (aS ee ff) (aS gg hh) (aS ff gg) (aS ee hh)=pt (sumX f g h e u v r s d) (afp f g h e u v r s d) (sumZ f g h e u v r s d) (afq f g h e u v r s d):=by
         rw[Kee.out,Kff.out,Kgg.out,Khh.out,Kd2.out,Kdd.out,Kcc.out,Kbb.out,Kaa.out];rfl
        rw[hfin] at V13;exact bodyPost_ret (dI rfl _ _ .i64 (w.heap.size+3) 64 _ rfl V13 Jj rfl Tryz.size193) rfl ⟨rfl,hb⟩
def ddF:Nat->Int:=dw kH kH
theorem aex:Fe ddF (dN+dN):=lK.dw lK
theorem afn:toF (dN+dN)=dE+dE:=by rw[gq,WJ]
theorem Ez (p:Bool) (f g h e u v r s:Nat->Int) (X Y Z T U V W S:Int) (hp:zJ f g h e X Y Z T) (hq:zJ u v r s U V W S) (w:World):
  Calls Tryz.prog 220 #[Pt f g h e,Pt u v r s,.bool p] w fun e_ w'=>e_=.returned (.tuple #[Pt (bA p f u) (bA p g v) (bA p h r) (bA p e s),Pt (bA p u f) (bA p v g) (bA p r h) (bA p s e)])/\Below w.heap.size w w':=by
 have HP:=ay hp;have HQ:=ay hq;clear hp hq;unfold Pt
 go_enter Tryz.func220,Tryz.ntmps220
 go_upto_region 1 with(fail)
 refine aJ (fun w1=>aK .i64 w1 w.heap.size 64 (pt f g h e)/\aK .i64 w1 (w.heap.size+1) 64 (pt u v r s)/\aK .i64 w1 (w.heap.size+2) 64 (fun _=>0)/\aK .i64 w1 (w.heap.size+3) 64 (fun _=>0)/\Below w.heap.size w w1)
  ⟨.alloc (.alloc (.alloc (cB rfl rfl) _) _) _,.alloc (.alloc (cB dO rfl) _) _,.alloc (cB dO (by rfl)) _,cB dO (by rfl),((((bT _ _).alloc (bH _) _).alloc dO _).alloc dO _).alloc dO _⟩ ?_
 rintro w1 ⟨hA,hC,hZ,hY,aD⟩
 try simp only[Act.put,fB,fD,fF]
 go_wp2_with (first | (refine fC rfl (bB (m:=15) (k:=0) rfl rfl aQ) ?_) | (refine fC rfl (bW rfl rfl dB rfl bP (fun i hi=>KC hA i hi)) ?_) | (refine fC rfl (bW rfl rfl dB rfl bP (fun i hi=>KC hC i hi)) ?_));refine(jT p f u _ _ HP.out.1 HQ.out.1 _).mono ?_;rintro e_ v0 ⟨rfl,hb⟩;replace hA:=hA.kept hb;replace hC:=hC.kept hb;replace hZ:=hZ.kept hb;replace hY:=hY.kept hb;replace aD:=aD.trans (hb.mono aD.size);have s2:=hC.eD (b':=w.heap.size) aH (vals .i64 16 (bA p f u)) 0;have t1:=gG (P:=Tryz.prog) hA (off:=0) (m:=16) aM (bA p f u);have t2:=gG (P:=Tryz.prog) s2 (off:=0) (m:=16) aM (bA p u f);go_upto_region 2 with(fail);clear t1 t2
 refine aJ (fun w1=>aK .i64 w1 w.heap.size 64 (pt (bA p f u) g h e)/\aK .i64 w1 (w.heap.size+1) 64 (pt (bA p u f) v r s)/\aK .i64 w1 (w.heap.size+2) 64 (fun _=>0)/\aK .i64 w1 (w.heap.size+3) 64 (fun _=>0)/\Below w.heap.size w w1)
  ⟨((hA.mid 16 0 (bA p f u)).congr (LC _ _ _ _ _)).eD (b':=w.heap.size+1) aH _ _,(s2.mid 16 0 (bA p u f)).congr (LC _ _ _ _ _),(hZ.eD (b':=w.heap.size) aH (vals .i64 16 (bA p f u)) 0).eD (b':=w.heap.size+1) aH (vals .i64 16 (bA p u f)) 0,(hY.eD (b':=w.heap.size) aH (vals .i64 16 (bA p f u)) 0).eD (b':=w.heap.size+1) aH (vals .i64 16 (bA p u f)) 0,kD aH _ _ _ (kD (bH _) _ _ _ aD)⟩ ?_
 clear s2 hA hC hZ hY aD hb;rintro w2 ⟨hA,hC,hZ,hY,aD⟩
 try simp only[Act.put,fB,fD,fF]
 go_wp2_with (first | (refine fC rfl (bB (m:=15) (k:=16) rfl rfl aQ) ?_) | (refine fC rfl (bW rfl rfl dB rfl bP (fun i hi=>Ol hA i hi)) ?_) | (refine fC rfl (bW rfl rfl dB rfl bP (fun i hi=>Ol hC i hi)) ?_));refine(jT p g v _ _ HP.out.2.1 HQ.out.2.1 _).mono ?_;rintro e_ v1 ⟨rfl,hb⟩;replace hA:=hA.kept hb;replace hC:=hC.kept hb;replace hZ:=hZ.kept hb;replace hY:=hY.kept hb;replace aD:=aD.trans (hb.mono aD.size);have s2:=hC.eD (b':=w.heap.size) aH (vals .i64 16 (bA p g v)) 16;have t1:=gG (P:=Tryz.prog) hA (off:=16) (m:=16) aM (bA p g v);have t2:=gG (P:=Tryz.prog) s2 (off:=16) (m:=16) aM (bA p v g);go_upto_region 3 with(fail);clear t1 t2
 refine aJ (fun w1=>aK .i64 w1 w.heap.size 64 (pt (bA p f u) (bA p g v) h e)/\aK .i64 w1 (w.heap.size+1) 64 (pt (bA p u f) (bA p v g) r s)/\aK .i64 w1 (w.heap.size+2) 64 (fun _=>0)/\aK .i64 w1 (w.heap.size+3) 64 (fun _=>0)/\Below w.heap.size w w1)
  ⟨((hA.mid 16 16 (bA p g v)).congr (LB _ _ _ _ _)).eD (b':=w.heap.size+1) aH _ _,(s2.mid 16 16 (bA p v g)).congr (LB _ _ _ _ _),(hZ.eD (b':=w.heap.size) aH (vals .i64 16 (bA p g v)) 16).eD (b':=w.heap.size+1) aH (vals .i64 16 (bA p v g)) 16,(hY.eD (b':=w.heap.size) aH (vals .i64 16 (bA p g v)) 16).eD (b':=w.heap.size+1) aH (vals .i64 16 (bA p v g)) 16,kD aH _ _ _ (kD (bH _) _ _ _ aD)⟩ ?_
 clear s2 hA hC hZ hY aD hb;rintro w3 ⟨hA,hC,hZ,hY,aD⟩
 try simp only[Act.put,fB,fD,fF]
 go_wp2_with (first | (refine fC rfl (bB (m:=15) (k:=32) rfl rfl aQ) ?_) | (refine fC rfl (bW rfl rfl dB rfl bP (fun i hi=>Tf hA i hi)) ?_) | (refine fC rfl (bW rfl rfl dB rfl bP (fun i hi=>Tf hC i hi)) ?_));refine(jT p h r _ _ HP.out.2.2.1 HQ.out.2.2.1 _).mono ?_;rintro e_ v2 ⟨rfl,hb⟩;replace hA:=hA.kept hb;replace hC:=hC.kept hb;replace hZ:=hZ.kept hb;replace hY:=hY.kept hb;replace aD:=aD.trans (hb.mono aD.size);have s2:=hC.eD (b':=w.heap.size) aH (vals .i64 16 (bA p h r)) 32;have t1:=gG (P:=Tryz.prog) hA (off:=32) (m:=16) aM (bA p h r);have t2:=gG (P:=Tryz.prog) s2 (off:=32) (m:=16) aM (bA p r h);go_upto_region 4 with(fail);clear t1 t2
 refine aJ (fun w1=>aK .i64 w1 w.heap.size 64 (pt (bA p f u) (bA p g v) (bA p h r) e)/\aK .i64 w1 (w.heap.size+1) 64 (pt (bA p u f) (bA p v g) (bA p r h) s)/\aK .i64 w1 (w.heap.size+2) 64 (fun _=>0)/\aK .i64 w1 (w.heap.size+3) 64 (fun _=>0)/\Below w.heap.size w w1)
  ⟨((hA.mid 16 32 (bA p h r)).congr (LA _ _ _ _ _)).eD (b':=w.heap.size+1) aH _ _,(s2.mid 16 32 (bA p r h)).congr (LA _ _ _ _ _),(hZ.eD (b':=w.heap.size) aH (vals .i64 16 (bA p h r)) 32).eD (b':=w.heap.size+1) aH (vals .i64 16 (bA p r h)) 32,(hY.eD (b':=w.heap.size) aH (vals .i64 16 (bA p h r)) 32).eD (b':=w.heap.size+1) aH (vals .i64 16 (bA p r h)) 32,kD aH _ _ _ (kD (bH _) _ _ _ aD)⟩ ?_
 clear s2 hA hC hZ hY aD hb;rintro w4 ⟨hA,hC,hZ,hY,aD⟩
 try simp only[Act.put,fB,fD,fF]
 go_wp2_with (first | (refine fC rfl (bB (m:=15) (k:=48) rfl rfl aQ) ?_) | (refine fC rfl (bW rfl rfl dB rfl bP (fun i hi=>abP hA i hi)) ?_) | (refine fC rfl (bW rfl rfl dB rfl bP (fun i hi=>abP hC i hi)) ?_));refine(jT p e s _ _ HP.out.2.2.2 HQ.out.2.2.2 _).mono ?_;rintro e_ v3 ⟨rfl,hb⟩;replace hA:=hA.kept hb;replace hC:=hC.kept hb;replace hZ:=hZ.kept hb;replace hY:=hY.kept hb;replace aD:=aD.trans (hb.mono aD.size);have s2:=hC.eD (b':=w.heap.size) aH (vals .i64 16 (bA p e s)) 48;have t1:=gG (P:=Tryz.prog) hA (off:=48) (m:=16) aM (bA p e s);have t2:=gG (P:=Tryz.prog) s2 (off:=48) (m:=16) aM (bA p s e);go_upto_region 5 with(fail);clear t1 t2
 refine aJ (fun w1=>aK .i64 w1 w.heap.size 64 (pt (bA p f u) (bA p g v) (bA p h r) (bA p e s))/\aK .i64 w1 (w.heap.size+1) 64 (pt (bA p u f) (bA p v g) (bA p r h) (bA p s e))/\aK .i64 w1 (w.heap.size+2) 64 (fun _=>0)/\aK .i64 w1 (w.heap.size+3) 64 (fun _=>0)/\Below w.heap.size w w1)
  ⟨((hA.mid 16 48 (bA p e s)).congr (Lx _ _ _ _ _)).eD (b':=w.heap.size+1) aH _ _,(s2.mid 16 48 (bA p s e)).congr (Lx _ _ _ _ _),(hZ.eD (b':=w.heap.size) aH (vals .i64 16 (bA p e s)) 48).eD (b':=w.heap.size+1) aH (vals .i64 16 (bA p s e)) 48,(hY.eD (b':=w.heap.size) aH (vals .i64 16 (bA p e s)) 48).eD (b':=w.heap.size+1) aH (vals .i64 16 (bA p s e)) 48,kD aH _ _ _ (kD (bH _) _ _ _ aD)⟩ ?_
 clear s2 hA hC hZ hY aD hb;rintro w5 ⟨hA,hC,hZ,hY,aD⟩
 try simp only[Act.put,fB,fD,fF]
 obtain⟨fa,hfa⟩:∃x,x=pt (bA p f u) (bA p g v) (bA p h r) (bA p e s):=⟨_,rfl⟩
 obtain⟨fb,EH⟩:∃x,x=pt (bA p u f) (bA p v g) (bA p r h) (bA p s e):=⟨_,rfl⟩
 rw[<-hfa] at hA;rw[<-EH] at hC
 refine qc (n:=54) 3 rfl aM aQ aQ aQ aQ rfl
  (fun ii vv ww=>(match ii with | 0=>vv=.agg (arr .i64 64 fa) | 1=>vv=.agg (arr .i64 64 fb) | _=>True)/\(ii=2->aK .i64 ww (w.heap.size+2) 64 fa)) 2
  (fun b ww=>(aK .i64 ww w.heap.size 64 fa/\aK .i64 ww (w.heap.size+1) 64 fb/\aK .i64 ww (w.heap.size+3) 64 (fun _=>0)/\Below w.heap.size w ww)/\(b=false->aK .i64 ww (w.heap.size+2) 64 (fun _=>0))) ⟨⟨hA.drew,hC.drew,hY.drew,aD.drew⟩,fun _=>hZ.drew⟩
  (fun i ww w'=>match i with | 2=>((aK .i64 ww w.heap.size 64 fa/\aK .i64 ww (w.heap.size+1) 64 fb/\aK .i64 ww (w.heap.size+3) 64 (fun _=>0)/\Below w.heap.size w ww)->(aK .i64 w' w.heap.size 64 fa/\aK .i64 w' (w.heap.size+1) 64 fb/\aK .i64 w' (w.heap.size+3) 64 (fun _=>0)/\Below w.heap.size w w')) | _=>w'=ww) ?_ ?_ ?_ ?_ rfl ?_ ?_
 ·intro i ww;(try dsimp only);split
  ·exact id
  ·rfl
 ·intro i b ww w' hi hR hE;have hE':w'=ww:=by(try dsimp only at hE);split at hE;(· exact absurd rfl hi);exact hE
  rw[hE'];exact hR
 ·intro ww w' hR hE;exact⟨hE hR.1,fun h=>by cases h⟩
 ·intro i j b v ww w' gI hjb hR hS hE;refine⟨hS.1,fun e=>?_⟩;subst e;have hE':w'=ww:=by(try dsimp only at hE);split at hE;(· exact absurd rfl gI);exact hE
  rw[hE'];exact hS.2 rfl
 ·refine dG ?_;refine⟨?_,?_,?_,(fun h=>absurd rfl h),trivial⟩
  ·intro _ b a w2 hcb hB hF hd;exact aN <| FU (fun h=>by cases h) (aF rfl Jj rfl Tryz.size193 (hF.same 3 rfl) hB.1.1) ⟨rfl,aP⟩ rfl
  ·intro _ b a w2 hcb hB hF hd;exact aN <| FU (fun h=>by cases h) (aF rfl Jj rfl Tryz.size193 (hF.same 4 rfl) hB.1.2.1) ⟨rfl,aP⟩ rfl
  ·intro _ b a w2 hcb hB hF hd;refine aN <| bG 193 _ _ rfl .i64 (w.heap.size+2) 64 (fun _=>0) fa Tryz.size193 (hF.same 6 rfl) (hd 0 _ rfl (aj rfl)).1 (hB.2 (hcb rfl)) ?_;exact⟨_,rfl,fun _=>rfl,⟨trivial,fun _=>(hB.2 (hcb rfl)).setRow _ _⟩,fun h=>⟨h.1.aC _ aH _,h.2.1.aC _ aH _,h.2.2.1.aC _ aH _,aB h.2.2.2 aH _⟩⟩
 ·intro b a w3 hB hF hS;have hV:=(hS 2 _ rfl aM).2 rfl;obtain⟨⟨_,_,hY3,ji⟩,_⟩:=hB;have ha:=aO rfl rfl hF [_,_,undef,undef] rfl ⟨(hS 0 _ rfl aM).1,(hS 1 _ rfl aM).1,trivial,trivial,trivial⟩;simp only[puts,Act.put,fB,fD,fF] at ha;subst ha;clear hS hF hA hC hZ hY aD;refine bG 193 _ _ rfl .i64 (w.heap.size+3) 64 (fun _=>0) _ Tryz.size193 rfl rfl hY3 ?_;have r1:=hV.aC (w.heap.size+3) aH (arr .i64 64 fb);have r2:=hY3.setRow 64 fb;have r3:=aB ji (by omega:w.heap.size<=w.heap.size+3) (arr .i64 64 fb);go_wp2;exact bodyPost_ret (rF rfl _ _ .i64 (w.heap.size+2) 64 _ .i64 (w.heap.size+3) 64 _ rfl r1 Jj rfl Tryz.size193 rfl r2 Jj rfl Tryz.size193) rfl ⟨by rw[hfa,EH],r3⟩
end Go.Proofs.YtpcjekgfnfjbpaaGreat
