/- Part 34 of SuiteBytes; conditions: in each theorem. -/
import Derived.Test.YtpcjekgfnfjbpaaGreatPkSuiteBytes31
import Derived.Test.YtpcjekgfnfjbpaaGreatPkSuiteBytes33
import Derived.Test.YtpcjekgfnfjbpaaGreatPkSuiteBytes26
set_option linter.unusedVariables false
set_option linter.unusedSimpArgs false
set_option maxRecDepth 100000
set_option maxHeartbeats 1600000
namespace Go.Proofs.YtpcjekgfnfjbpaaGreat
open Go.RowKit Go.bC
attribute [local go_sem ↓] Go.wp_at_zero Go.wp_at_succ
theorem SY (v:Value) (n:Nat) (f:Nat->Int) (w:World) (hv:oq w v 1 (fun _=>n) (fun _=>f)) (hn:n<=1000000) (hf:∀i,i<n->0<=f i/\f i<256):
  Calls Tryz.prog 139 #[v] w fun e w'=>e=.returned (.agg (arr .u8 64 (gJ n f)))/\Below w.heap.size w w':=
 vQ v 1 _ _ n f w hv (uz (f:=f) (n:=n)).1 (uz (f:=f) (n:=n)).2 hn hf
theorem Vp (v:Value) (m:Nat) (lens:Nat->Nat) (g:Nat->Nat->Int) (n:Nat) (f:Nat->Int) (w:World) (hv:oq w v m lens g) (hg:∀j,j<m->∀i,i<lens j->f (fq lens j+i)=g j i) (hn:fq lens m=n) (hn2:n<=1000000) (hf:∀i,i<n->0<=f i/\f i<256):
  Calls Tryz.prog 80 #[v] w fun e w'=>e=.returned (.agg (arr .u8 32 (gJ n f)))/\Below w.heap.size w w':=by
 obtain⟨SB,xu⟩:∃SB,SB=gJ n f:=⟨_,rfl⟩
 have HS:=ak (fun w' (h:oq w' v m lens g)=>vQ v m lens g n f w' h hg hn hn2 hf);have HV:=ak hv;rw[<-xu] at HS ⊢;clear xu hg hn hn2 hf hv
 go_enter Tryz.func80,Tryz.ntmps80
 go_upto_region 1 with(fail);refine aJ (fun w1=>aQ .u8 w1 w.heap.size 32 (fun _=>0)/\Below w.heap.size w w1/\w1.heap.size=w.heap.size+1) ⟨bU rfl (by rfl),(bT _ _).alloc (bB _) _,by simp⟩ ?_;rintro w1 ⟨hZ,aA,hs⟩
 refine bG (n:=9) aS aS aS rfl
  (gZ [(3,2)]) (eZ [(3,2)]) (fun _=>arr .u8 64 (fun _=>0)) (fun _=>(arr .u8 64 (SB))) (fun _=>47) (fun _=>3)
  (fun ii vv _=>(match ii with | 0=>vv=v | 1=>vv=.agg (arr .u8 64 (SB)) | _=>True)) (fun _ _=>True) (fun _ _ _=>trivial) (fun _ _ _ _ _ _ _=>trivial) (fun _ _ _ _ h _=>h)
  (fJ rfl) (dU rfl) ?_ ?_ ?_ ?_
 ·refine cB ?_;refine⟨?_,?_,(fun h=>by cases h),(fun _ h=>by cases h),trivial⟩
  ·intro _ _ a w2 hB hF hd;exact aO <| aB _ (.inl rfl) aR (hF.same 0 rfl)
  ·intro _ _ a w2 hB hF hd;refine aO <| aD _ _ _ rfl Tryz.call139 _ (args1 (hd 0 _ rfl rfl rfl (aj rfl))) aR ((HS.out _ (HV.out.below (aA.trans (hB.mono aA.size)))).mono ?_);rintro e w3 ⟨rfl,hb⟩;exact⟨_,rfl,rfl,hb⟩
 ·refine cB ?_;refine⟨(fun h=>by cases h),(fun h=>by cases h),?_,(fun h=>by cases h),trivial⟩
  ·exact fun _=>⟨rfl,rfl,fun a w2 K h=>aZ rfl rfl Tryz.zeroValue47 aR h⟩
 ·refine cB ?_;refine⟨(fun _ h=>by cases h),(fun _ h=>by cases h),(fun _ h=>by cases h),?_,trivial⟩
  ·intro p hp;obtain rfl:2=p:=iy hp;exact⟨rfl,rfl,⟨_,rfl⟩,aj rfl,fun a w2 b K hB hF hd hx hb h=>bJ rfl rfl zy hx (hd 1 _ rfl rfl rfl (aj rfl)) hb h⟩
 ·intro a w2 blk hB hF hS hv hfin dw;obtain⟨v2,Px,XJ⟩:=hv 2 _ rfl rfl;have ha:=aP rfl rfl hF [_,_,_,undef] rfl ⟨hS 0 _ rfl rfl rfl,hS 1 _ rfl rfl rfl,v2,trivial,trivial⟩;have f2:=hfin 3 _ 2 rfl rfl;simp only[puts,Act.put,dK,dL,dM] at ha;subst ha;have V2:aQ .u8 w2 (blk 2) 64 (SB):=⟨_,f2⟩
  clear hS hv hfin dw hF v2 f2;have gy:=hZ.kept hB;have dP:=aA.trans (hB.mono aA.size);obtain⟨q,hq⟩:∃q,q=blk 2:=⟨_,rfl⟩
  rw[<-hq] at V2 ⊢;have hql:=V2.lt;have hc3:∀i,i<32->w2.cell? ⟨q,0+i,none⟩=some (.int .u8 (SB i)):=fun i hi=>by rw[oD,V2.cell i aH]
  have XD:=ak hc3;have HZ2:=ak gy;clear hZ aA hs hq hc3 hB V2 gy;go_upto_region 2 with(fail)
  refine dz (n:=9) (fun i=>i==3) aS aS aS aS rfl
   (fun ii vv _=>(match ii with | 0=>vv=.slice (some ⟨q,0,none⟩) 32 64 | 1=>vv=.pointer (some ⟨q,0,none⟩) | 2=>vv=.agg (arr .u8 32 (SB)) | _=>True))
   (fun w w'=>Below w.heap.size w w') (fun _ _ h=>h) (fun _ _ _ _ h _=>h)
   (fun _=>w.heap.size) (fun _=>(arr .u8 32 (fun _=>0))) (fun _=>(arr .u8 32 (SB)))
   (by intro i j _ _ dx kL gB;simp only[beq_iff_eq] at dx kL;omega)
   (by intro i _ dx;exact(HZ2.out).row)
   ?_ ?_ ?_
  ·refine cB ?_;refine⟨?_,?_,?_,(aL),trivial⟩
   ·intro _ a w2 hB hF hd;exact aO <| aT (eY rfl (hF.same 3 rfl) (by simp only[Option.map_some,Option.map_none];exact jv (m:=32) FD Tryz.size5 aN)) rfl
   ·intro _ a w2 hB hF hd;exact aO <| aT (jc rfl (hd 0 _ rfl rfl (aj rfl)) dY aN) rfl
   ·intro _ a w2 hB hF hd;exact aO <| aT (gL rfl (hd 1 _ rfl rfl (aj rfl)) dY dh (fun i hi=>(hB.cell (p:=⟨q,0+i,none⟩) hql).trans (XD.out i hi))) rfl
  ·refine cB ?_;refine⟨(aL),(aL),(aL),?_,trivial⟩
   ·intro _ a w1 w2 K hB hF hS hr hK;exact bE 22 _ _ rfl .u8 (w.heap.size) 32 (fun _=>0) (SB) dh (hF.same 2 rfl) (hS 2 _ rfl rfl) hr hK
  ·intro a wf w4 hB hF hS hfil;have other:∀{k:IntKind} {qb n:Nat} {f:Nat->Int},qb≠w.heap.size->aQ k wf qb n f->aQ k w4 qb n f:=fun {k qb n f} e0 hA=>hfil.arr (by intro i _ dx;simp only[mP,beq_iff_eq] at dx;subst dx<;> ((try simp only[]);(try dsimp only);omega)) hA;have dI:∀{B:Nat} {w0:World},B<=w.heap.size->Below B w0 wf->Below B w0 w4:=fun {B w0} e0 hA=>hfil.below (by intro i _ dx;simp only[mP,beq_iff_eq] at dx;subst dx<;> ((try simp only[]);(try dsimp only);omega)) hA;have V3:aQ .u8 w4 (w.heap.size) 32 (SB):=hfil.at 3 aN rfl;have qh:=hfil.size;clear hfil;have ha:=aP rfl rfl hF [_,_,_,undef] rfl ⟨hS 0 _ rfl rfl,hS 1 _ rfl rfl,hS 2 _ rfl rfl,trivial,trivial⟩;simp only[puts,Act.put,dK,dL,dM] at ha;subst ha;clear hS hF;have jd:=dI aH (dP.trans (hB.mono dP.size));go_wp2;exact bodyPost_ret (bg rfl _ _ .u8 w.heap.size 32 _ 5 rfl V3 dY dh) rfl ⟨rfl,jd⟩
end Go.Proofs.YtpcjekgfnfjbpaaGreat
