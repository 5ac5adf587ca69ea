/- Part 31 of SuiteBytes; conditions: in each theorem. -/
import Derived.Test.YtpcjekgfnfjbpaaGreatPkSuiteBytes30
import Derived.Test.YtpcjekgfnfjbpaaGreatPkSuiteBytes20
import Derived.Test.YtpcjekgfnfjbpaaGreatPkSuiteBytes6
import Derived.Deep.LoopGhost
import Derived.RangeFuncBox
set_option linter.unusedVariables false
set_option linter.unusedSimpArgs false
set_option maxRecDepth 100000
set_option maxHeartbeats 6400000
namespace Go.bC
open Go.RowKit
theorem Er {P:Program} {ops:Array Oper} {rest:List Oper} {o:Oper} {a:Act} {w:World} {Q:Exit->Act->World->Prop} (hg:o.guard=none) (T:TypeId) (x y:Operand) (ho:o.op=.store T x y) (hd:o.dst=none) (b:Nat) {T':TypeId} (v v0:Value) (hv:v.cells=#[v]) (h1:v.oneCell'=true)
  (hi:(P.info? T).map (·.size)=some 1) (hx:a.eval x=.pointer (some ⟨b,0,none⟩)) (hy:a.eval y=v) (hb:Boxed w b T' v0) (hK:wpList P ops Q rest a (w.setCell ⟨b,0,none⟩ v)):wpList P ops Q (o::rest) a w:=
 wpList_plain hg fun _ hK'=>FP T x y ho hd b v v0 hv h1 hi hx hy hb.cell hb.frozen (by have:=hK' _ _ hK;simpa [hd,Act.put] using this)
theorem Rd.oneCell {k:IntKind} {w:World} {v:Value} {n:Nat} {f:Nat->Int} (h:Rd k w v n f):v.oneCell'=true:=by
 obtain⟨a,c,rfl,_⟩:=h
 rfl
theorem Rd.Ii {k:IntKind} {w:World} {v:Value} {n:Nat} {f:Nat->Int} (h:Rd k w v n f):v.cells=#[v] :=by
 obtain⟨a,c,rfl,_⟩:=h
 rfl
theorem OwnAt.far {k:IntKind} {e:TypeId} {base:Nat} {w:World} {v:Value} {n:Nat} {f:Nat->Int} (h:OwnAt k e base w v n f) {b:Nat} (hb:b<base):some b≠v.ownBlock:=fun e=>by have:=(h.lt b e.symm).1;omega
theorem WI {B:Nat} {a w w':World} {k:IntKind} {e:TypeId} {base:Nat} {v:Value} {n:Nat} {f:Nat->Int} {w0:World} (h:Below B a w) (hg:w.grownBy w' v.ownBlock) (ho:OwnAt k e base w0 v n f) (hB:B<=w.heap.size) (hbase:B<=base):Below B a w':=
 h.grown hg hB fun b hb=>jS hbase (ho.lt b hb).1
theorem OwnAt.set {k:IntKind} {e:TypeId} {base:Nat} {w:World} {v:Value} {n:Nat} {f:Nat->Int} (h:OwnAt k e base w v n f) {p:Addr} (hp:p.block<base) (y:Value):OwnAt k e base (w.setCell p y) v n f:=by
 rcases h with h | ⟨g,o,c,cur,rfl,hb',hgg,rest⟩
 ·exact .inl h
 ·refine .inr ⟨g,o,c,cur,rfl,hb',?_,rest⟩;rw[heap_setCell_other w p g y aH];exact hgg
theorem OwnAt.setRow {k:IntKind} {e:TypeId} {base:Nat} {w:World} {v:Value} {n:Nat} {f:Nat->Int} (h:OwnAt k e base w v n f) {b:Nat} (hp:b<base) (cs:Array Value):OwnAt k e base (w.setRow b cs) v n f:=by
 rcases h with h | ⟨g,o,c,cur,rfl,hb',hgg,rest⟩
 ·exact .inl h
 ·refine .inr ⟨g,o,c,cur,rfl,hb',?_,rest⟩;rw[setRow_other w b g cs aH];exact hgg
theorem Boxed.abL {w:World} {b:Nat} {T:TypeId} {v:Value} (h:Boxed w b T v) {b':Nat} (hb:b≠b') (cs:Array Value):Boxed (w.setRow b' cs) b T v:=by
 unfold Boxed at *;rw[setRow_other w b' b cs hb];exact h
theorem OwnAt.adA {P:Program} {t e:TypeId} {k:IntKind} {bytes:Nat} (ht:P.underlying t=some (.slice e)) (hinfo:(P.info? e).map (fun i=>(i.zero,i.size,i.bytes))=some (some (.int k 0),1,bytes))
  {base:Nat} {w:World} {b o n c:Nat} {f:Nat->Int} (h:OwnAt k e base w (.slice (some ⟨b,o,none⟩) n c) n f) (lo:Nat) (hlo:lo<=n) (hc:n<=c):
  ∃a',(∀w,(Instr.sliceAt t (.slice (some ⟨b,o,none⟩) n c) (some (.int .i64 (lo:Int))) none none).run P w=.ok (.slice a' (n - lo) (c - lo)) w)/\OwnAt k e base w (.slice a' (n - lo) (c - lo)) (n - lo) (fun i=>f (lo+i)):=by
 have hel:=Ic ht;have ht':P.underlying t=some (.slice (P.elem t)):=by rw[hel];exact ht
 refine⟨_,fun w=>?_,h.cut lo hlo⟩;rw[run_sliceAt_slice w t _ _ _ _ ht',run_slice_l w t _ n c ht' .i64 lo aH aH,hel,lN hinfo];by_cases hcl:c=lo
 ·simp[Result.andThen,sliced,hcl]
 ·simp[Result.andThen,sliced,hcl,addr_add]
end Go.bC
namespace Go.Proofs.YtpcjekgfnfjbpaaGreat
open Go.RowKit Go.bC
attribute [local go_sem ↓] Go.wp_at_zero Go.wp_at_succ
theorem Tryz.sizeB23:(Tryz.prog.info? 23).map (·.size)=some 1:=by kernel_rfl
def StS (w:World) (B1 bL bS bK:Nat) (F:Nat->Int) (T:Nat):Prop:=
 ∃v,Boxed w bL 23 v/\OwnAt .u8 5 B1 w v (T % 128) (fun i=>F (128 * (T / 128)+i))/\aQ .u64 w bS 8 (fZ F (T / 128))/\aQ .u64 w bK 80 kK
theorem StS.kept {w w':World} {B1 bL bS bK T:Nat} {F:Nat->Int} (h:StS w B1 bL bS bK F T) (hb:Below w.heap.size w w'):StS w' B1 bL bS bK F T:=by
 obtain⟨v,h1,h2,h3,h4⟩:=h;exact⟨v,by unfold Boxed;rw[hb.block _ h1.lt];exact h1,h2.below hb,h3.kept hb,h4.kept hb⟩
theorem Jb (F:Nat->Int) (hF:∀i,0<=F i/\F i<256) (B0 B1 bL bS bK:Nat) (d1:bL≠bS) (d2:bL≠bK) (d3:bS≠bK) (o1:B0<=bL/\B0<=bS) (o2:bL<B1/\bS<B1/\bK<B1) (T m:Nat) (hT:T+m<=1000000000)
  (p:Value) (w:World) (hp:Rd .u8 w p m (fun i=>F (T+i))) (hS:StS w B1 bL bS bK F T) (hw:B1<=w.heap.size):
  Calls Tryz.prog 194 #[p,.pointer (some ⟨bL,0,none⟩),.pointer (some ⟨bS,0,none⟩),.pointer (some ⟨bK,0,none⟩)] w fun e w'=>(∃v,e=.returned v)/\StS w' B1 bL bS bK F (T+m)/\Below B0 w w':=by
 have HF:=ak hF;obtain⟨v,hx,ho,hs,hk⟩:=hS;have HP:=ak hp;have HO:=ak ho;have HS:=ak hs;have HK:=ak hk;have hc:=hx.cell;have hxf:=hx.frozen;obtain⟨o1,o1'⟩:=o1;obtain⟨o2,o3,o4⟩:=o2;clear hF hp ho hs hk;obtain⟨q,hq⟩:∃q,q=T / 128:=⟨_,rfl⟩
 obtain⟨r,hr⟩:∃r,r=T % 128:=⟨_,rfl⟩
 rw[<-hq] at HO HS;rw[<-hr] at HO;have hqr:128 * q+r=T:=by rw[hq,hr];omega
 have HQR:=ak hqr;have hr':r<128:=by rw[hr];exact Nat.mod_lt _ aN
 clear hq hr hqr
 go_enter Tryz.func194,Tryz.ntmps194
 go_upto_region 1 with(first
  | (at_builtin;refine Rx rfl _ _ 23 rfl B1 5 .u8 1 lK pI _ r (fun i=>F (128 * q+i)) HO.out rfl _ m _ HP.out rfl (fun i _=>by have:=HQR.out;show F _=F _;congr 1;omega) aH aH hw ?_;intro v1 w1 ho1 hg1 _;have hx1:=hx.kept hg1 (HO.out.far o2);have acH:=ho1.rd;have afS:=acH.Ii;have afz:=acH.oneCell)
  | (refine Er rfl 23 _ _ rfl rfl bL _ _ afS afz Tryz.sizeB23 rfl rfl hx1 ?_))
 refine aJ (fun w2=>Boxed w2 bL 23 v1/\OwnAt .u8 5 B1 w2 v1 (r+m) (fun i=>F (128 * q+i))/\aQ .u64 w2 bS 8 (fZ F q)/\aQ .u64 w2 bK 80 kK/\Below B0 w w2/\B1<=w2.heap.size)
  ⟨hx1.set v1,ho1.set (p:=⟨bL,0,none⟩) o2 _,(HS.out.grown hg1 (HO.out.far o3)).other (by simpa using d1.symm) _,(HK.out.grown hg1 (HO.out.far o4)).other (by simpa using d2.symm) _,
   (WI (bT B0 w) hg1 HO.out aH aH).setCell (by simpa using o1) _,by rw[size_setCell];have:=hg1.size;omega⟩ ?_
 rintro w2 ⟨hx2,ho2,hs2,hk2,dP,hw2⟩;clear hc hxf afS afz acH hx hx1 ho1 hg1 HP HO HS HK;simp only[Act.put,dK,dL,dM]
 go_loopg [] (r+m) (fun g wr=> ∃(L Q:Nat) (v:Value),g=L/\Hid (128 * Q+L=T+m)/\L<=r+m/\Boxed wr bL 23 v/\OwnAt .u8 5 B1 wr v L (fun i=>F (128 * Q+i))/\aQ .u64 wr bS 8 (fZ F Q)/\aQ .u64 wr bK 80 kK/\Below B0 w wr/\B1<=wr.heap.size)
 case atStart=>exact⟨_,q,v1,rfl,by have:=HQR.out;unfold Hid;omega,bB _,hx2,ho2,hs2,hk2,dP,hw2⟩
 case round=>
  clear hx2 ho2 hs2 hk2 dP hw2;obtain⟨L,Q,v,hgL,HQ,hL,hx,ho,hs,hk,hb,hw1⟩:=hrel;have HG:=ak hgL;have hrd:=ho.rd;have HR:=ak hrd;obtain⟨la,c,rfl,c1,c2,_,c4⟩:=hrd;have HC4:=ak c4;have HO:=ak ho;have hc:=hx.cell;clear hgL c4 ho;by_cases hlt:128<=L
  ·obtain⟨b,o,rfl,hbl,_⟩:=HC4.out aH;have hcl:=hx.lt;have G1:=ak (Rd.head (P:=Tryz.prog) lK pI (some ⟨b,o,none⟩) L c 128 hlt c1);go_upto_region 2 with(fail)
   refine fT (n:=17) 4 rfl aN aS aS aS aS rfl
    (fun ii vv _=>(match ii with | 0=>vv=.agg (arr .u64 8 (fZ F Q)) | 1=>vv=.slice (some ⟨b,o,none⟩) L c | 2=>vv=.slice (some ⟨b,o,none⟩) 128 c | 3=>vv=.agg (arr .u64 8 (tK (fZ F Q) (fun i=>F (128 * Q+i)))) | _=>True))
    (fun w w'=>Below w.heap.size w w') (fun _ _ h=>h) (fun _ _ _ _ h _=>h) rfl ?_ ?_
   ·refine cB ?_;refine⟨?_,?_,?_,?_,(fun h=>absurd rfl h),trivial⟩
    ·intro _ a w2 hB hF hd;exact aO <| aT (aF rfl zP rfl Tryz.size229 (hF.same 2 rfl) (hs.kept hB)) rfl
    ·intro _ a w2 hB hF hd;exact aO <| aT (jD rfl (hF.same 1 rfl) lK ((hB.cell (p:=⟨bL,0,none⟩) hcl).trans hc)) rfl
    ·intro _ a w2 hB hF hd;exact aO <| aT (eY rfl (hd 1 _ rfl (aj rfl)) (by simp only[Option.map_some,Option.map_none];exact G1.out.1 _)) rfl
    ·intro _ a w2 hB hF hd;refine aO <| aD _ _ _ rfl Tryz.call195 _ (Cn (hd 0 _ rfl (aj rfl)) (hF.same 3 rfl) (hd 2 _ rfl (aj rfl))) aR ((Qo (fZ F Q) (oO F Q) bK _ (fun i=>F (128 * Q+i)) _ (hk.kept hB) (G1.out.2 _ _ (HR.out.below hB)) (fun i _=>HF.out _)).mono ?_);rintro e w3 ⟨rfl,hb⟩;exact⟨_,rfl,rfl,hb⟩
   ·intro a w3 hB hF hS;have ha:=aP rfl rfl hF [_,_,_,_,undef] rfl ⟨hS 0 _ rfl aN,hS 1 _ rfl aN,hS 2 _ rfl aN,hS 3 _ rfl aN,trivial,trivial⟩;simp only[puts,Act.put,dK,dL,dM] at ha;subst ha;clear hS hF;have hs3:=hs.kept hB;refine bE 229 _ _ rfl .u64 bS 8 (fZ F Q) _ Tryz.size229 rfl rfl hs3 ?_;have hx3:Boxed w3 bL 23 (.slice (some ⟨b,o,none⟩) L c):=by unfold Boxed;rw[hB.block _ hcl];exact hx
    have hx4:=Go.bC.Boxed.abL hx3 d1 (arr .u64 8 (tK (fZ F Q) (fun i=>F (128 * Q+i))));have Sc:=(HO.out.below hB).setRow o3 (arr .u64 8 (tK (fZ F Q) (fun i=>F (128 * Q+i))));have hs4:aQ .u64 (w3.setRow bS (arr .u64 8 (tK (fZ F Q) (fun i=>F (128 * Q+i))))) bS 8 (fZ F (Q+1)):=hs3.setRow _ _;have hk4:=(hk.kept hB).aG bS d3.symm (arr .u64 8 (tK (fZ F Q) (fun i=>F (128 * Q+i))));have jd:=aC (hb.trans (hB.mono aH)) o1' (arr .u64 8 (tK (fZ F Q) (fun i=>F (128 * Q+i))));have hw4:B1<=(w3.setRow bS (arr .u64 8 (tK (fZ F Q) (fun i=>F (128 * Q+i))))).heap.size:=by have:=hB.size;simp;omega
    obtain⟨A1,hrun,hcut⟩:=Sc.adA (P:=Tryz.prog) lK pI 128 hlt c1;have NV:=ak hrun;have Pk:=ak hcut;clear hs hk hx hb hw1 hB hs3 hx3 Sc HO HR G1 hc hcl HC4 hrun hcut hbl;have hc4:=hx4.cell;go_upto_region 3 with(fail);obtain⟨w4,afp⟩:∃w4,w4=w3.setRow bS (arr .u64 8 (tK (fZ F Q) (fun i=>F (128 * Q+i)))):=⟨_,rfl⟩
    rw[<-afp] at hx4 Pk hs4 hk4 jd hw4 hc4 ⊢;clear afp;simp only[List.getElem_toArray,List.getElem_cons_succ,List.getElem_cons_zero,Act.put];have hr:∀w,(Instr.sliceAt 23 (.slice (some ⟨b,o,none⟩) L c) (some (.int .i64 128)) none none).run Tryz.prog w=.ok (.slice A1 (L - 128) (c - 128)) w:=NV.out;go_wp2_with (refine Er rfl 23 _ _ rfl rfl bL (.slice A1 (L - 128) (c - 128)) _ rfl rfl Tryz.sizeB23 rfl rfl hx4 ?_)
    go_roundg (L - 128)
    case rel=>exact⟨L - 128,Q+1,_,rfl,by have:=HQ.out;unfold Hid;omega,by omega,hx4.set _,(Pk.out.set (p:=⟨bL,0,none⟩) o2 _).congr (fun i _=>by show F _=F _;congr 1;omega),hs4.other (by simpa using d1.symm) _,hk4.other (by simpa using d2.symm) _,jd.setCell (by simpa using o1) _,by rw[size_setCell];exact hw4⟩
    case measure=>have:=HG.out;omega
  ·go_wp2
   go_end0
   refine⟨⟨_,rfl⟩,⟨_,hx,?_,?_,hk⟩,hb⟩
   ·have:=HQ.out;rw[show (T+m) % 128=L by omega,show (T+m) / 128=Q by omega];exact HO.out
   ·have:=HQ.out;rw[show (T+m) / 128=Q by omega];exact hs
theorem Nz (va:Value) (n:Nat) (f:Nat->Int) (w:World) (ha:Rd .u64 w va n f) (hf:∀i,i<n->0<=f i/\f i<18446744073709551616) (hn:n<=1099511627776):
  Calls Tryz.prog 197 #[va] w fun e w'=> ∃v,e=.returned v/\Rd .u8 w' v (n * 8) (og f)/\Below w.heap.size w w':=
 (zu va n f w ha hf hn).mono fun _ _ ⟨v,h1,h2,h3⟩=>⟨v,h1,h2.rd,h3⟩
theorem vQ (v:Value) (m:Nat) (lens:Nat->Nat) (g:Nat->Nat->Int) (n:Nat) (f:Nat->Int) (w:World) (hv:oq w v m lens g) (hg:∀j,j<m->∀i,i<lens j->f (fq lens j+i)=g j i) (hn:fq lens m=n) (hn2:n<=1000000) (hf:∀i,i<n->0<=f i/\f i<256):
  Calls Tryz.prog 139 #[v] w fun e w'=>e=.returned (.agg (arr .u8 64 (gJ n f)))/\Below w.heap.size w w':=by
 obtain⟨F,zn⟩:∃F,F=zI n f:=⟨_,rfl⟩
 have HF:Hid (∀i,0<=F i/\F i<256):=by rw[zn];exact Bv hf
 have HLO:Hid (∀j,j<m->∀i,i<lens j->F (fq lens j+i)=g j i):=by
  rw[zn];intro j hj i hi;have h1:=yw lens (show j+1<=m by omega);rw[fq] at h1;rw[OA aH];exact hg j hj i hi
 have HHI:Hid (∀i,F (n+i)=qN n i):=by rw[zn];exact fun i=>OB i
 obtain⟨N,hN⟩:∃N,N=ME n:=⟨_,rfl⟩
 have Ll:Hid (n+yu n=N):=by rw[hN];exact rfl
 have NW:Hid (N<=1000200):=by unfold Hid;rw[hN];unfold ME yu zG;omega
 have uq:Hid (og (fZ F (N / 128))=gJ n f):=by rw[zn,hN];exact rfl
 have HHB:Hid (∀i,i<8->0<=fZ F (N / 128) i/\fZ F (N / 128) i<18446744073709551616):=oO F _;have CW:Hid (∀j,j<=m->fq lens j<=n):=fun j hj=>by rw[<-hn];exact yw lens hj
 have HOM:=ak hn;obtain⟨SB,xu⟩:∃SB,SB=gJ n f:=⟨_,rfl⟩
 rw[<-xu] at uq ⊢;have HT:=ak hv;obtain⟨ta,tc,rfl,t1,t2,t3⟩:=hv;have HT3:=ak t3;clear zn hN xu hg hn hf t3
 go_enter Tryz.func139,Tryz.ntmps139
 go_upto_region 1 with(fail);refine aJ (fun w1=>aQ .u8 w1 w.heap.size 64 (fun _=>0)/\Below w.heap.size w w1/\w1.heap.size=w.heap.size+1) ⟨bU rfl (by rfl),(bT _ _).alloc (bB _) _,by simp⟩ ?_;rintro w1 ⟨hZ,aA,hs⟩
 refine bG (n:=37) aS aS aS rfl
  (gZ [(4,2),(5,3)]) (eZ [(4,2),(5,3)]) (fun i=>match i with | 2=>arr .u64 80 (fun _=>0) | 3=>arr .u64 8 (fun _=>0) | _=> #[]) (fun i=>match i with | 2=>(arr .u64 80 (kK)) | 3=>(arr .u64 8 (kB)) | _=> #[]) (fun i=>match i with | 2=>227 | 3=>229 | _=>0) (fun i=>match i with | 2=>3 | 3=>4 | _=>0)
  (fun ii vv _=>(match ii with | 0=>vv=.agg (arr .u64 80 (kK)) | 1=>vv=.agg (arr .u64 8 (kB)) | _=>True)) (fun _ _=>True) (fun _ _ _=>trivial) (fun _ _ _ _ _ _ _=>trivial) (fun _ _ _ _ h _=>h)
  (fJ rfl) (dU rfl) ?_ ?_ ?_ ?_
 ·refine cB ?_;refine⟨?_,?_,(fun h=>by cases h),(fun h=>by cases h),(fun _ h=>by cases h),(fun _ h=>by cases h),trivial⟩
  ·intro _ _ a w2 hB hF hd;refine aO <| aD _ _ _ rfl Tryz.call192 _ mZ aR ((QH _).mono ?_);rintro e w3 ⟨rfl,hb⟩;exact⟨_,rfl,rfl,hb⟩
  ·intro _ _ a w2 hB hF hd;refine aO <| aD _ _ _ rfl Tryz.call193 _ mZ aR ((Ru _).mono ?_);rintro e w3 ⟨rfl,hb⟩;exact⟨_,rfl,rfl,hb⟩
 ·refine cB ?_;refine⟨(fun h=>by cases h),(fun h=>by cases h),?_,?_,(fun h=>by cases h),(fun h=>by cases h),trivial⟩
  ·exact fun _=>⟨rfl,rfl,fun a w2 K h=>aZ rfl rfl Tryz.zeroValue227 aR h⟩
  ·exact fun _=>⟨rfl,rfl,fun a w2 K h=>aZ rfl rfl Tryz.zeroValue229 aR h⟩
 ·refine cB ?_;refine⟨(fun _ h=>by cases h),(fun _ h=>by cases h),(fun _ h=>by cases h),(fun _ h=>by cases h),?_,?_,trivial⟩
  ·intro p hp;obtain rfl:2=p:=iy hp;exact⟨rfl,rfl,⟨_,rfl⟩,aj rfl,fun a w2 b K hB hF hd hx hb h=>bJ rfl rfl Tryz.size227 hx (hd 0 _ rfl rfl rfl (aj rfl)) hb h⟩
  ·intro p hp;obtain rfl:3=p:=iy hp;exact⟨rfl,rfl,⟨_,rfl⟩,aj rfl,fun a w2 b K hB hF hd hx hb h=>bJ rfl rfl Tryz.size229 hx (hd 1 _ rfl rfl rfl (aj rfl)) hb h⟩
 ·intro a w2 blk hB hF hS hv hfin dw;obtain⟨v2,Px,XJ⟩:=hv 2 _ rfl rfl;obtain⟨v3,Ah,Le⟩:=hv 3 _ rfl rfl;have ha:=aP rfl rfl hF [_,_,_,_,undef,undef] rfl ⟨hS 0 _ rfl rfl rfl,hS 1 _ rfl rfl rfl,v2,v3,trivial,trivial,trivial⟩;have f2:=hfin 4 _ 2 rfl rfl;have f3:=hfin 5 _ 3 rfl rfl;have KL:=dw 2 3 _ _ rfl rfl rfl rfl aN;simp only[puts,Act.put,dK,dL,dM] at ha;subst ha;have V2:aQ .u64 w2 (blk 2) 80 (kK):=⟨_,f2⟩
  have V3:aQ .u64 w2 (blk 3) 8 (kB):=⟨_,f3⟩
  clear hS hv hfin dw hF v2 v3 f2 f3;have gy:=hZ.kept hB;have dP:=aA.trans (hB.mono aA.size);obtain⟨bK,hbK⟩:∃bK,bK=blk 2:=⟨_,rfl⟩
  obtain⟨bS,hbS⟩:∃bS,bS=blk 3:=⟨_,rfl⟩
  have k1:w.heap.size+1<=bK:=by rw[hbK,←hs];exact Px
  have k2:w.heap.size+1<=bS:=by rw[hbS,←hs];exact Ah
  have k3:bK≠bS:=by rw[hbK,hbS];exact KL
  rw[<-hbK] at V2;rw[<-hbS] at V3;rw[<-hbK,←hbS];have k4:=V2.lt;have k5:=V3.lt;have s2:=dP.size;clear hZ aA hs hB hbK hbS KL Px XJ Ah Le;go_upto_region 3 with(fail);obtain⟨bL,hbL⟩:∃bL,bL=w2.heap.size:=⟨_,rfl⟩
  refine aJ (fun w3=>Boxed w3 bL 23 (.slice none 0 0)/\aQ .u64 w3 bK 80 kK/\aQ .u64 w3 bS 8 kB/\aQ .u8 w3 w.heap.size 64 (fun _=>0)/\Below w.heap.size w w3/\w3.heap.size=bL+1)
   ⟨by rw[hbL];exact Boxed.new _ _ _,V2.alloc _,V3.alloc _,gy.alloc _,dP.alloc s2 _,by simp[hbL]⟩ ?_
  rintro w3 ⟨hx3,hk3,hs3,jy,fP,QO⟩;rw[<-hbL] at k4 k5 s2 ⊢;clear V2 V3 gy dP hbL;have gF:StS w3 (bL+1) bL bS bK F 0:=⟨_,hx3,OwnAt.nil _ _ _ _ _,hs3,hk3⟩
  clear hx3 hs3 hk3;go_wp2
  go_loopw [6,16] (fun x i wr=> ∃j:Nat,j<=m/\i=.int .i64 j/\x=.int .i64 ((fq lens j:Nat):Int)/\StS wr (bL+1) bL bS bK F (fq lens j)/\aQ .u8 wr w.heap.size 64 (fun _=>0)/\Below w.heap.size w wr/\bL+1<=wr.heap.size) (fun _ i _=>m - (intOf i).toNat)
  case atStart=>exact⟨0,gX _,rfl,rfl,gF,jy,fP,by omega⟩
  case round=>
   clear gF jy fP QO;obtain⟨j,hj,rfl,rfl,gF,hZ,aA,hw⟩:=hrel;have HST:=ak gF;clear gF;by_cases hlt:j<m
   ·obtain⟨tb,to,rfl,tlt,rZ⟩:=HT3.out aH;obtain⟨u,hu,RZ⟩:=rZ j hlt;have e1:=(aA.cell (p:=⟨tb,to+j,none⟩) tlt).trans hu;obtain⟨ua,uc,rfl,u1,u2,u3,u4⟩:=id RZ;have Sj:=ak ((RZ.below aA).congr (g:=fun i=>F (fq lens j+i)) (fun i hi=>(HLO.out j hlt i hi).symm));have hle:fq lens j+lens j<=n:=CW.out (j+1) aH;clear rZ hu RZ u3 u4;go_wp2_with fail;refine(Jb F HF.out (w.heap.size+1) (bL+1) bL bS bK aH aH k3.symm ⟨by omega,k2⟩ ⟨by omega,by omega,by omega⟩ (fq lens j) (lens j) aH _ _ Sj.out HST.out hw).mono ?_;rintro e w5 ⟨⟨rv,rfl⟩,afu,iX⟩;have rW:=hZ.below iX aH;have iG:=aA.trans (iX.mono aH);have hw5:bL+1<=w5.heap.size:=jS hw iX.size;have akY:=ak afu;clear afu iX hZ aA e1;go_wp2;go_roundw
    case rel=>exact⟨j+1,by omega,by go_num,by rw[fq];go_num,akY.out,rW,iG,hw5⟩
    case measure=>simp[intOf] <;> omega
   ·obtain rfl:j=m:=by omega
    have HS0:Hid (StS wr (bL+1) bL bS bK F n):=by rw[<-HOM.out];exact HST.out
    obtain⟨wp,hwp⟩:∃wp,wp=wr:=⟨_,rfl⟩
    subst hwp;clear HST;rw[HOM.out];go_wp2_with fail;refine(Yj n aH _).mono ?_;rintro e w5 ⟨p,rfl,hp,iX⟩;have iG:=aA.trans (iX.mono aA.size);have rW:=hZ.kept iX;have hw5:bL+1<=w5.heap.size:=jS hw iX.size;have HS5:=ak (HS0.out.kept iX);have HP5:=ak (hp.rd.congr (g:=fun i=>F (n+i)) (fun i _=>(HHI.out i).symm));clear hp iX aA hZ HS0;go_wp2_with fail;refine(Jb F HF.out (w.heap.size+1) (bL+1) bL bS bK aH aH k3.symm ⟨by omega,k2⟩ ⟨by omega,by omega,by omega⟩ n (yu n) (by have:=Ll.out;have:=NW.out;omega) _ _ HP5.out HS5.out hw5).mono ?_;rintro e w6 ⟨⟨rv,rfl⟩,aft,kg⟩;have sW:=rW.below kg aH;have iw:=iG.trans (kg.mono aH);rw[Ll.out] at aft;obtain⟨vl,_,_,hs6,_⟩:=aft;have hzl:=sW.lt;clear kg rW iG hw5 HS5 HP5;go_upto_region 13 with(fail);refine aJ (fun w7=>aQ .u8 w7 w6.heap.size 64 (fun _=>0)/\aQ .u64 w7 bS 8 (fZ F (N / 128))/\aQ .u8 w7 w.heap.size 64 (fun _=>0)/\Below w.heap.size w w7) ⟨bU rfl (by rfl),hs6.alloc _,sW.alloc _,iw.alloc iw.size _⟩ ?_;rintro w7 ⟨ho7,hs7,EU,sV⟩;have q6:=iw.size;clear hs6 sW iw;obtain⟨bO,hbO⟩:∃bO,bO=w6.heap.size:=⟨_,rfl⟩
    rw[<-hbO] at ho7 hzl q6 ⊢;clear hbO
    refine fT (n:=37) 3 rfl aN aS aS aS aS rfl
     (fun ii vv ww=>(match ii with | 0=>vv=.slice (some ⟨bO,0,none⟩) 64 64 | 1=>vv=.slice (some ⟨bS,0,none⟩) 8 8 | _=>True)/\(ii=2->Rd .u8 ww vv (8 * 8) (og (fZ F (N / 128)))))
     (fun w w'=>Below w.heap.size w w') (fun _ _ h=>h) (fun i v w w' h hE=>⟨h.1,fun e=>Rd.below (h.2 e) hE⟩) rfl ?_ ?_
    ·refine cB ?_;refine⟨?_,?_,?_,(fun h=>absurd rfl h),trivial⟩
     ·intro _ a w2 hB hF hd;exact aO <| aT (fC rfl (hF.same 10 rfl) FD aS) ⟨rfl,aL⟩
     ·intro _ a w2 hB hF hd;exact aO <| aT (fC rfl (hF.same 4 rfl) zP aS) ⟨rfl,aL⟩
     ·intro _ a w2 hB hF hd;refine aO <| aD _ _ _ rfl Tryz.call197 _ (args1 ((hd 1 _ rfl (aj rfl)).1)) aR ((Nz _ 8 (fZ F (N / 128)) _ ((hs7.kept hB).rd aN) HHB.out aN).mono ?_);rintro e w3 ⟨u,rfl,hr,hb⟩;exact⟨u,rfl,⟨trivial,fun _=>hr⟩,hb⟩
    ·intro a w8 hB hF hS;obtain⟨x34,hx34⟩:∃x,x=a.tmps.getD 34 undef:=⟨_,rfl⟩
     have P34:Rd .u8 w8 x34 (8 * 8) (og (fZ F (N / 128))):=by rw[hx34];exact(hS 2 _ rfl aN).2 rfl
     obtain⟨x35,afj⟩:∃x,x=a.tmps.getD 35 undef:=⟨_,rfl⟩
     have ha:=aP rfl rfl hF [_,_,x34,x35] rfl ⟨(hS 0 _ rfl aN).1,(hS 1 _ rfl aN).1,hx34.symm,afj.symm,trivial⟩;simp only[puts,Act.put,dK,dL,dM] at ha;subst ha;clear hx34 afj;clear hS hF;have ho8:=ho7.kept hB;have Vq:=EU.kept hB;have xk:=sV.trans (hB.mono sV.size);have q8:=xk.size;refine kE _ _ 23 23 rfl (e:=5) (k:=.u8) bO 0 64 64 64 (fun _=>0) lK Tryz.size5 rfl ho8 x34 64 _ P34 rfl aN aN ?_;have hS9:aQ .u8 (w8.setRow bO (arr .u8 64 (laid (fun _=>0) 0 64 (og (fZ F (N / 128)))))) bO 64 SB:=by
      refine(ho8.setRow 64 (laid (fun _=>0) 0 64 (og (fZ F (N / 128))))).congr (fun i hi=>?_);rw[<-uq.out];unfold laid;rw[if_pos aH,Nat.sub_zero]
     have hZ9:=Vq.aG bO aH (arr .u8 64 (laid (fun _=>0) 0 64 (og (fZ F (N / 128)))));have DN:=aC xk (show w.heap.size<=bO by omega) (arr .u8 64 (laid (fun _=>0) 0 64 (og (fZ F (N / 128)))));obtain⟨w9,hw9⟩:∃w9,w9=w8.setRow bO (arr .u8 64 (laid (fun _=>0) 0 64 (og (fZ F (N / 128))))):=⟨_,rfl⟩
     rw[<-hw9] at hS9 hZ9 DN ⊢;clear hw9 ho8 Vq xk P34 hB ho7 hs7 EU sV;go_upto_region 14 with(fail);simp only[List.getElem_toArray,List.getElem_cons_succ,List.getElem_cons_zero,Act.put]
     go_wp2_with (first
      | (refine bq rfl 47 _ rfl .u8 bO 64 SB 5 FD zy rfl hS9 ?_)
      | (refine aM rfl 47 _ _ rfl .u8 w.heap.size 64 (fun _=>0) SB zy rfl rfl hZ9 ?_))
     exact bodyPost_ret (bg rfl _ _ .u8 w.heap.size 64 _ 5 rfl (hZ9.setRow 64 SB) FD zy) rfl ⟨rfl,aC DN (bB _) _⟩
end Go.Proofs.YtpcjekgfnfjbpaaGreat
