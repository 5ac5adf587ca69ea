/- Part 43 of EscrowComes; conditions: in each theorem. -/
import Derived.Test.YtpcjekgfnfjbpaaGreatPkEC41
import Derived.Test.YtpcjekgfnfjbpaaGreatPkEC9
import Derived.Test.YtpcjekgfnfjbpaaGreatPkEC6
import Derived.Deep.LoopGhost
import Derived.RangeFuncBox
set_option linter.unusedVariables false
set_option linter.unusedSimpArgs false
set_option maxRecDepth 100000
set_option maxHeartbeats 6400000
namespace Go.bI
open Go.RowKit
theorem Fw {P:Program} {ops:Array Oper} {rest:List Oper} {o:Oper} {a:Act} {w:World} {Q:Exit->Act->World->Prop} (hg:o.guard=none) (T:TypeId) (x y:Operand) (ho:o.op=.store T x y) (hd:o.dst=none) (b:Nat) {T':TypeId} (v v0:Value) (hv:v.cells=#[v]) (h1:v.oneCell'=true)
  (hi:(P.info? T).map (·.size)=some 1) (hx:a.eval x=.pointer (some ⟨b,0,none⟩)) (hy:a.eval y=v) (hb:Boxed w b T' v0) (hK:wpList P ops Q rest a (w.setCell ⟨b,0,none⟩ v)):wpList P ops Q (o::rest) a w:=
 wpList_plain hg fun _ hK'=>wO T x y ho hd b v v0 hv h1 hi hx hy hb.cell hb.frozen (by have:=hK' _ _ hK;simpa [hd,Act.put] using this)
theorem Rd.oneCell {k:IntKind} {w:World} {v:Value} {n:Nat} {f:Nat->Int} (h:Rd k w v n f):v.oneCell'=true:=by
 obtain⟨a,c,rfl,_⟩:=h
 rfl
theorem Rd.IY {k:IntKind} {w:World} {v:Value} {n:Nat} {f:Nat->Int} (h:Rd k w v n f):v.cells=#[v] :=by
 obtain⟨a,c,rfl,_⟩:=h
 rfl
theorem OwnAt.far {k:IntKind} {e:TypeId} {base:Nat} {w:World} {v:Value} {n:Nat} {f:Nat->Int} (h:OwnAt k e base w v n f) {b:Nat} (hb:b<base):some b≠v.ownBlock:=fun e=>by have:=(h.lt b e.symm).1;omega
theorem aaj {B:Nat} {a w w':World} {k:IntKind} {e:TypeId} {base:Nat} {v:Value} {n:Nat} {f:Nat->Int} {w0:World} (h:Below B a w) (hg:w.grownBy w' v.ownBlock) (ho:OwnAt k e base w0 v n f) (hB:B<=w.heap.size) (hbase:B<=base):Below B a w':=
 h.grown hg hB fun b hb=>iw hbase (ho.lt b hb).1
theorem OwnAt.set {k:IntKind} {e:TypeId} {base:Nat} {w:World} {v:Value} {n:Nat} {f:Nat->Int} (h:OwnAt k e base w v n f) {p:Addr} (hp:p.block<base) (y:Value):OwnAt k e base (w.setCell p y) v n f:=by
 rcases h with h | ⟨g,o,c,cur,rfl,hb',hgg,rest⟩
 ·exact .inl h
 ·refine .inr ⟨g,o,c,cur,rfl,hb',?_,rest⟩;rw[heap_setCell_other w p g y aH];exact hgg
theorem OwnAt.setRow {k:IntKind} {e:TypeId} {base:Nat} {w:World} {v:Value} {n:Nat} {f:Nat->Int} (h:OwnAt k e base w v n f) {b:Nat} (hp:b<base) (cs:Array Value):OwnAt k e base (w.setRow b cs) v n f:=by
 rcases h with h | ⟨g,o,c,cur,rfl,hb',hgg,rest⟩
 ·exact .inl h
 ·refine .inr ⟨g,o,c,cur,rfl,hb',?_,rest⟩;rw[setRow_other w b g cs aH];exact hgg
theorem Boxed.afN {w:World} {b:Nat} {T:TypeId} {v:Value} (h:Boxed w b T v) {b':Nat} (hb:b≠b') (cs:Array Value):Boxed (w.setRow b' cs) b T v:=by
 unfold Boxed at *;rw[setRow_other w b' b cs hb];exact h
theorem OwnAt.ahG {P:Program} {t e:TypeId} {k:IntKind} {bytes:Nat} (ht:P.underlying t=some (.slice e)) (hinfo:(P.info? e).map (fun i=>(i.zero,i.size,i.bytes))=some (some (.int k 0),1,bytes))
  {base:Nat} {w:World} {b o n c:Nat} {f:Nat->Int} (h:OwnAt k e base w (.slice (some ⟨b,o,none⟩) n c) n f) (lo:Nat) (hlo:lo<=n) (hc:n<=c):
  ∃a',(∀w,(Instr.sliceAt t (.slice (some ⟨b,o,none⟩) n c) (some (.int .i64 (lo:Int))) none none).run P w=.ok (.slice a' (n - lo) (c - lo)) w)/\OwnAt k e base w (.slice a' (n - lo) (c - lo)) (n - lo) (fun i=>f (lo+i)):=by
 have hel:=IK ht;have ht':P.underlying t=some (.slice (P.elem t)):=by rw[hel];exact ht
 refine⟨_,fun w=>?_,h.cut lo hlo⟩;rw[run_sliceAt_slice w t _ _ _ _ ht',run_slice_l w t _ n c ht' .i64 lo aH aH,hel,mP hinfo];by_cases hcl:c=lo
 ·simp[Result.andThen,sliced,hcl]
 ·simp[Result.andThen,sliced,hcl,addr_add]
end Go.bI
namespace Go.Proofs.YtpcjekgfnfjbpaaGreat
open Go.RowKit Go.bI
attribute [local go_sem ↓] Go.wp_at_zero Go.wp_at_succ
theorem Tryz.sizeB23:(Tryz.prog.info? 23).map (·.size)=some 1:=by kernel_rfl
def StS (w:World) (B1 bL bS bK:Nat) (F:Nat->Int) (T:Nat):Prop:=
 ∃v,Boxed w bL 23 v/\OwnAt .u8 5 B1 w v (T % 128) (fun i=>F (128 * (T / 128)+i))/\aK .u64 w bS 8 (iI F (T / 128))/\aK .u64 w bK 80 kK
theorem StS.kept {w w':World} {B1 bL bS bK T:Nat} {F:Nat->Int} (h:StS w B1 bL bS bK F T) (hb:Below w.heap.size w w'):StS w' B1 bL bS bK F T:=by
 obtain⟨v,h1,h2,h3,h4⟩:=h;exact⟨v,by unfold Boxed;rw[hb.block _ h1.lt];exact h1,h2.below hb,h3.kept hb,h4.kept hb⟩
theorem JQ (F:Nat->Int) (hF:∀i,0<=F i/\F i<256) (B0 B1 bL bS bK:Nat) (d1:bL≠bS) (d2:bL≠bK) (d3:bS≠bK) (o1:B0<=bL/\B0<=bS) (o2:bL<B1/\bS<B1/\bK<B1) (T m:Nat) (hT:T+m<=1000000000)
  (p:Value) (w:World) (hp:Rd .u8 w p m (fun i=>F (T+i))) (hS:StS w B1 bL bS bK F T) (hw:B1<=w.heap.size):
  Calls Tryz.prog 194 #[p,.pointer (some ⟨bL,0,none⟩),.pointer (some ⟨bS,0,none⟩),.pointer (some ⟨bK,0,none⟩)] w fun e w'=>(∃v,e=.returned v)/\StS w' B1 bL bS bK F (T+m)/\Below B0 w w':=by
 have HF:=ay hF;obtain⟨v,hx,ho,hs,hk⟩:=hS;have HP:=ay hp;have HO:=ay ho;have HS:=ay hs;have HK:=ay hk;have hc:=hx.cell;have hxf:=hx.frozen;obtain⟨o1,o1'⟩:=o1;obtain⟨o2,o3,o4⟩:=o2;clear hF hp ho hs hk;obtain⟨q,hq⟩:∃q,q=T / 128:=⟨_,rfl⟩
 obtain⟨r,hr⟩:∃r,r=T % 128:=⟨_,rfl⟩
 rw[<-hq] at HO HS;rw[<-hr] at HO;have hqr:128 * q+r=T:=by rw[hq,hr];omega
 have HQR:=ay hqr;have hr':r<128:=by rw[hr];exact Nat.mod_lt _ aM
 clear hq hr hqr
 go_enter Tryz.func194,Tryz.ntmps194
 go_upto_region 1 with(first
  | (at_builtin;refine Vb rfl _ _ 23 rfl B1 5 .u8 1 mo yL _ r (fun i=>F (128 * q+i)) HO.out rfl _ m _ HP.out rfl (fun i _=>by have:=HQR.out;show F _=F _;congr 1;omega) aH aH hw ?_;intro v1 w1 ho1 hg1 _;have hx1:=hx.kept hg1 (HO.out.far o2);have agB:=ho1.rd;have akQ:=agB.IY;have akz:=agB.oneCell)
  | (refine Fw rfl 23 _ _ rfl rfl bL _ _ akQ akz Tryz.sizeB23 rfl rfl hx1 ?_))
 refine aJ (fun w2=>Boxed w2 bL 23 v1/\OwnAt .u8 5 B1 w2 v1 (r+m) (fun i=>F (128 * q+i))/\aK .u64 w2 bS 8 (iI F q)/\aK .u64 w2 bK 80 kK/\Below B0 w w2/\B1<=w2.heap.size)
  ⟨hx1.set v1,ho1.set (p:=⟨bL,0,none⟩) o2 _,(HS.out.grown hg1 (HO.out.far o3)).other (by simpa using d1.symm) _,(HK.out.grown hg1 (HO.out.far o4)).other (by simpa using d2.symm) _,
   (aaj (bT B0 w) hg1 HO.out aH aH).setCell (by simpa using o1) _,by rw[size_setCell];have:=hg1.size;omega⟩ ?_
 rintro w2 ⟨hx2,ho2,hs2,hk2,fO,hw2⟩;clear hc hxf akQ akz agB hx hx1 ho1 hg1 HP HO HS HK;simp only[Act.put,fB,fD,fF]
 go_loopg [] (r+m) (fun g wr=> ∃(L Q:Nat) (v:Value),g=L/\Hid (128 * Q+L=T+m)/\L<=r+m/\Boxed wr bL 23 v/\OwnAt .u8 5 B1 wr v L (fun i=>F (128 * Q+i))/\aK .u64 wr bS 8 (iI F Q)/\aK .u64 wr bK 80 kK/\Below B0 w wr/\B1<=wr.heap.size)
 case atStart=>exact⟨_,q,v1,rfl,by have:=HQR.out;unfold Hid;omega,bH _,hx2,ho2,hs2,hk2,fO,hw2⟩
 case round=>
  clear hx2 ho2 hs2 hk2 fO hw2;obtain⟨L,Q,v,hgL,HQ,hL,hx,ho,hs,hk,hb,hw1⟩:=hrel;have HG:=ay hgL;have hrd:=ho.rd;have HR:=ay hrd;obtain⟨la,c,rfl,c1,c2,_,c4⟩:=hrd;have HC4:=ay c4;have HO:=ay ho;have hc:=hx.cell;clear hgL c4 ho;by_cases hlt:128<=L
  ·obtain⟨b,o,rfl,hbl,_⟩:=HC4.out aH;have hcl:=hx.lt;have G1:=ay (Rd.head (P:=Tryz.prog) mo yL (some ⟨b,o,none⟩) L c 128 hlt c1);go_upto_region 2 with(fail)
   refine jZ (n:=17) 4 rfl aM aQ aQ aQ aQ rfl
    (fun ii vv _=>(match ii with | 0=>vv=.agg (arr .u64 8 (iI F Q)) | 1=>vv=.slice (some ⟨b,o,none⟩) L c | 2=>vv=.slice (some ⟨b,o,none⟩) 128 c | 3=>vv=.agg (arr .u64 8 (tZ (iI F Q) (fun i=>F (128 * Q+i)))) | _=>True))
    (fun w w'=>Below w.heap.size w w') (fun _ _ h=>h) (fun _ _ _ _ h _=>h) rfl ?_ ?_
   ·refine dG ?_;refine⟨?_,?_,?_,?_,(fun h=>absurd rfl h),trivial⟩
    ·intro _ a w2 hB hF hd;exact aN <| aW (aF rfl AL rfl Tryz.size229 (hF.same 2 rfl) (hs.kept hB)) rfl
    ·intro _ a w2 hB hF hd;exact aN <| aW (eB rfl (hF.same 1 rfl) mo ((hB.cell (p:=⟨bL,0,none⟩) hcl).trans hc)) rfl
    ·intro _ a w2 hB hF hd;exact aN <| aW (dY rfl (hd 1 _ rfl (aj rfl)) (by simp only[Option.map_some,Option.map_none];exact G1.out.1 _)) rfl
    ·intro _ a w2 hB hF hd;refine aN <| aI _ _ _ rfl Tryz.call195 _ (vR (hd 0 _ rfl (aj rfl)) (hF.same 3 rfl) (hd 2 _ rfl (aj rfl))) aR ((Tp (iI F Q) (Aa F Q) bK _ (fun i=>F (128 * Q+i)) _ (hk.kept hB) (G1.out.2 _ _ (HR.out.below hB)) (fun i _=>HF.out _)).mono ?_);rintro e w3 ⟨rfl,hb⟩;exact⟨_,rfl,rfl,hb⟩
   ·intro a w3 hB hF hS;have ha:=aO rfl rfl hF [_,_,_,_,undef] rfl ⟨hS 0 _ rfl aM,hS 1 _ rfl aM,hS 2 _ rfl aM,hS 3 _ rfl aM,trivial,trivial⟩;simp only[puts,Act.put,fB,fD,fF] at ha;subst ha;clear hS hF;have hs3:=hs.kept hB;refine bG 229 _ _ rfl .u64 bS 8 (iI F Q) _ Tryz.size229 rfl rfl hs3 ?_;have hx3:Boxed w3 bL 23 (.slice (some ⟨b,o,none⟩) L c):=by unfold Boxed;rw[hB.block _ hcl];exact hx
    have hx4:=Go.bI.Boxed.afN hx3 d1 (arr .u64 8 (tZ (iI F Q) (fun i=>F (128 * Q+i))));have ho4:=(HO.out.below hB).setRow o3 (arr .u64 8 (tZ (iI F Q) (fun i=>F (128 * Q+i))));have hs4:aK .u64 (w3.setRow bS (arr .u64 8 (tZ (iI F Q) (fun i=>F (128 * Q+i))))) bS 8 (iI F (Q+1)):=hs3.setRow _ _;have hk4:=(hk.kept hB).aC bS d3.symm (arr .u64 8 (tZ (iI F Q) (fun i=>F (128 * Q+i))));have jF:=aB (hb.trans (hB.mono aH)) o1' (arr .u64 8 (tZ (iI F Q) (fun i=>F (128 * Q+i))));have hw4:B1<=(w3.setRow bS (arr .u64 8 (tZ (iI F Q) (fun i=>F (128 * Q+i))))).heap.size:=by have:=hB.size;simp;omega
    obtain⟨A1,hrun,hcut⟩:=ho4.ahG (P:=Tryz.prog) mo yL 128 hlt c1;have aaz:=ay hrun;have HO4:=ay hcut;clear hs hk hx hb hw1 hB hs3 hx3 ho4 HO HR G1 hc hcl HC4 hrun hcut hbl;have hc4:=hx4.cell;go_upto_region 3 with(fail);obtain⟨w4,akm⟩:∃w4,w4=w3.setRow bS (arr .u64 8 (tZ (iI F Q) (fun i=>F (128 * Q+i)))):=⟨_,rfl⟩
    rw[<-akm] at hx4 HO4 hs4 hk4 jF hw4 hc4 ⊢;clear akm;simp only[List.getElem_toArray,List.getElem_cons_succ,List.getElem_cons_zero,Act.put];have hr:∀w,(Instr.sliceAt 23 (.slice (some ⟨b,o,none⟩) L c) (some (.int .i64 128)) none none).run Tryz.prog w=.ok (.slice A1 (L - 128) (c - 128)) w:=aaz.out;go_wp2_with (refine Fw rfl 23 _ _ rfl rfl bL (.slice A1 (L - 128) (c - 128)) _ rfl rfl Tryz.sizeB23 rfl rfl hx4 ?_)
    go_roundg (L - 128)
    case rel=>exact⟨L - 128,Q+1,_,rfl,by have:=HQ.out;unfold Hid;omega,by omega,hx4.set _,(HO4.out.set (p:=⟨bL,0,none⟩) o2 _).congr (fun i _=>by show F _=F _;congr 1;omega),hs4.other (by simpa using d1.symm) _,hk4.other (by simpa using d2.symm) _,jF.setCell (by simpa using o1) _,by rw[size_setCell];exact hw4⟩
    case measure=>have:=HG.out;omega
  ·go_wp2
   go_end0
   refine⟨⟨_,rfl⟩,⟨_,hx,?_,?_,hk⟩,hb⟩
   ·have:=HQ.out;rw[show (T+m) % 128=L by omega,show (T+m) / 128=Q by omega];exact HO.out
   ·have:=HQ.out;rw[show (T+m) / 128=Q by omega];exact hs
theorem PX (va:Value) (n:Nat) (f:Nat->Int) (w:World) (ha:Rd .u64 w va n f) (hf:∀i,i<n->0<=f i/\f i<18446744073709551616) (hn:n<=1099511627776):
  Calls Tryz.prog 197 #[va] w fun e w'=> ∃v,e=.returned v/\Rd .u8 w' v (n * 8) (qx f)/\Below w.heap.size w w':=
 (Aj va n f w ha hf hn).mono fun _ _ ⟨v,h1,h2,h3⟩=>⟨v,h1,h2.rd,h3⟩
theorem GA (v:Value) (m:Nat) (lens:Nat->Nat) (g:Nat->Nat->Int) (n:Nat) (f:Nat->Int) (w:World) (hv:uq w v m lens g) (hg:∀j,j<m->∀i,i<lens j->f (dQ lens j+i)=g j i) (hn:dQ lens m=n) (hn2:n<=1000000) (hf:∀i,i<n->0<=f i/\f i<256):
  Calls Tryz.prog 139 #[v] w fun e w'=>e=.returned (.agg (arr .u8 64 (rC n f)))/\Below w.heap.size w w':=by
 obtain⟨F,Um⟩:∃F,F=Ll n f:=⟨_,rfl⟩
 have HF:Hid (∀i,0<=F i/\F i<256):=by rw[Um];exact OI hf
 have HLO:Hid (∀j,j<m->∀i,i<lens j->F (dQ lens j+i)=g j i):=by
  rw[Um];intro j hj i hi;have h1:=qN lens (show j+1<=m by omega);rw[dQ] at h1;rw[acy aH];exact hg j hj i hi
 have HHI:Hid (∀i,F (n+i)=xI n i):=by rw[Um];exact fun i=>acz i
 obtain⟨N,hN⟩:∃N,N=afY n:=⟨_,rfl⟩
 have Qs:Hid (n+Tq n=N):=by rw[hN];exact rfl
 have Vq:Hid (N<=1000200):=by unfold Hid;rw[hN];unfold afY Tq KP;omega
 have DW:Hid (qx (iI F (N / 128))=rC n f):=by rw[Um,hN];exact rfl
 have HHB:Hid (∀i,i<8->0<=iI F (N / 128) i/\iI F (N / 128) i<18446744073709551616):=Aa F _;have VU:Hid (∀j,j<=m->dQ lens j<=n):=fun j hj=>by rw[<-hn];exact qN lens hj
 have HOM:=ay hn;obtain⟨SB,hSB⟩:∃SB,SB=rC n f:=⟨_,rfl⟩
 rw[<-hSB] at DW ⊢;have HT:=ay hv;obtain⟨ta,tc,rfl,t1,t2,t3⟩:=hv;have HT3:=ay t3;clear Um hN hSB hg hn hf t3
 go_enter Tryz.func139,Tryz.ntmps139
 go_upto_region 1 with(fail);refine aJ (fun w1=>aK .u8 w1 w.heap.size 64 (fun _=>0)/\Below w.heap.size w w1/\w1.heap.size=w.heap.size+1) ⟨cB rfl (by rfl),(bT _ _).alloc (bH _) _,by simp⟩ ?_;rintro w1 ⟨hZ,aD,hs⟩
 refine bN (n:=37) aQ aQ aQ rfl
  (ku [(4,2),(5,3)]) (gH [(4,2),(5,3)]) (fun i=>match i with | 2=>arr .u64 80 (fun _=>0) | 3=>arr .u64 8 (fun _=>0) | _=> #[]) (fun i=>match i with | 2=>(arr .u64 80 (kK)) | 3=>(arr .u64 8 (kB)) | _=> #[]) (fun i=>match i with | 2=>227 | 3=>229 | _=>0) (fun i=>match i with | 2=>3 | 3=>4 | _=>0)
  (fun ii vv _=>(match ii with | 0=>vv=.agg (arr .u64 80 (kK)) | 1=>vv=.agg (arr .u64 8 (kB)) | _=>True)) (fun _ _=>True) (fun _ _ _=>trivial) (fun _ _ _ _ _ _ _=>trivial) (fun _ _ _ _ h _=>h)
  (iJ rfl) (fT rfl) ?_ ?_ ?_ ?_
 ·refine dG ?_;refine⟨?_,?_,(fun h=>by cases h),(fun h=>by cases h),(fun _ h=>by cases h),(fun _ h=>by cases h),trivial⟩
  ·intro _ _ a w2 hB hF hd;refine aN <| aI _ _ _ rfl Tryz.call192 _ Ak aR ((TV _).mono ?_);rintro e w3 ⟨rfl,hb⟩;exact⟨_,rfl,rfl,hb⟩
  ·intro _ _ a w2 hB hF hd;refine aN <| aI _ _ _ rfl Tryz.call193 _ Ak aR ((UZ _).mono ?_);rintro e w3 ⟨rfl,hb⟩;exact⟨_,rfl,rfl,hb⟩
 ·refine dG ?_;refine⟨(fun h=>by cases h),(fun h=>by cases h),?_,?_,(fun h=>by cases h),(fun h=>by cases h),trivial⟩
  ·exact fun _=>⟨rfl,rfl,fun a w2 K h=>bD rfl rfl Tryz.zeroValue227 aR h⟩
  ·exact fun _=>⟨rfl,rfl,fun a w2 K h=>bD rfl rfl Tryz.zeroValue229 aR h⟩
 ·refine dG ?_;refine⟨(fun _ h=>by cases h),(fun _ h=>by cases h),(fun _ h=>by cases h),(fun _ h=>by cases h),?_,?_,trivial⟩
  ·intro p hp;obtain rfl:2=p:=gJ hp;exact⟨rfl,rfl,⟨_,rfl⟩,aj rfl,fun a w2 b K hB hF hd hx hb h=>bQ rfl rfl Tryz.size227 hx (hd 0 _ rfl rfl rfl (aj rfl)) hb h⟩
  ·intro p hp;obtain rfl:3=p:=gJ hp;exact⟨rfl,rfl,⟨_,rfl⟩,aj rfl,fun a w2 b K hB hF hd hx hb h=>bQ rfl rfl Tryz.size229 hx (hd 1 _ rfl rfl rfl (aj rfl)) hb h⟩
 ·intro a w2 blk hB hF hS hv hfin dS;obtain⟨v2,v2l,v2u⟩:=hv 2 _ rfl rfl;obtain⟨v3,Gv,Sn⟩:=hv 3 _ rfl rfl;have ha:=aO rfl rfl hF [_,_,_,_,undef,undef] rfl ⟨hS 0 _ rfl rfl rfl,hS 1 _ rfl rfl rfl,v2,v3,trivial,trivial,trivial⟩;have f2:=hfin 4 _ 2 rfl rfl;have f3:=hfin 5 _ 3 rfl rfl;have Mr:=dS 2 3 _ _ rfl rfl rfl rfl aM;simp only[puts,Act.put,fB,fD,fF] at ha;subst ha;have V2:aK .u64 w2 (blk 2) 80 (kK):=⟨_,f2⟩
  have V3:aK .u64 w2 (blk 3) 8 (kB):=⟨_,f3⟩
  clear hS hv hfin dS hF v2 v3 f2 f3;have jG:=hZ.kept hB;have fO:=aD.trans (hB.mono aD.size);obtain⟨bK,hbK⟩:∃bK,bK=blk 2:=⟨_,rfl⟩
  obtain⟨bS,hbS⟩:∃bS,bS=blk 3:=⟨_,rfl⟩
  have k1:w.heap.size+1<=bK:=by rw[hbK,←hs];exact v2l
  have k2:w.heap.size+1<=bS:=by rw[hbS,←hs];exact Gv
  have k3:bK≠bS:=by rw[hbK,hbS];exact Mr
  rw[<-hbK] at V2;rw[<-hbS] at V3;rw[<-hbK,←hbS];have k4:=V2.lt;have k5:=V3.lt;have s2:=fO.size;clear hZ aD hs hB hbK hbS Mr v2l v2u Gv Sn;go_upto_region 3 with(fail);obtain⟨bL,hbL⟩:∃bL,bL=w2.heap.size:=⟨_,rfl⟩
  refine aJ (fun w3=>Boxed w3 bL 23 (.slice none 0 0)/\aK .u64 w3 bK 80 kK/\aK .u64 w3 bS 8 kB/\aK .u8 w3 w.heap.size 64 (fun _=>0)/\Below w.heap.size w w3/\w3.heap.size=bL+1)
   ⟨by rw[hbL];exact Boxed.new _ _ _,V2.alloc _,V3.alloc _,jG.alloc _,fO.alloc s2 _,by simp[hbL]⟩ ?_
  rintro w3 ⟨hx3,hk3,hs3,lZ,ji,acR⟩;rw[<-hbL] at k4 k5 s2 ⊢;clear V2 V3 jG fO hbL;have iN:StS w3 (bL+1) bL bS bK F 0:=⟨_,hx3,OwnAt.nil _ _ _ _ _,hs3,hk3⟩
  clear hx3 hs3 hk3;go_wp2
  go_loopw [6,16] (fun x i wr=> ∃j:Nat,j<=m/\i=.int .i64 j/\x=.int .i64 ((dQ lens j:Nat):Int)/\StS wr (bL+1) bL bS bK F (dQ lens j)/\aK .u8 wr w.heap.size 64 (fun _=>0)/\Below w.heap.size w wr/\bL+1<=wr.heap.size) (fun _ i _=>m - (intOf i).toNat)
  case atStart=>exact⟨0,jm _,rfl,rfl,iN,lZ,ji,by omega⟩
  case round=>
   clear iN lZ ji acR;obtain⟨j,hj,rfl,rfl,iN,hZ,aD,hw⟩:=hrel;have HST:=ay iN;clear iN;by_cases hlt:j<m
   ·obtain⟨tb,to,rfl,tlt,sJ⟩:=HT3.out aH;obtain⟨u,hu,Uh⟩:=sJ j hlt;have e1:=(aD.cell (p:=⟨tb,to+j,none⟩) tlt).trans hu;obtain⟨ua,uc,rfl,u1,u2,u3,u4⟩:=id Uh;have HRU:=ay ((Uh.below aD).congr (g:=fun i=>F (dQ lens j+i)) (fun i hi=>(HLO.out j hlt i hi).symm));have hle:dQ lens j+lens j<=n:=VU.out (j+1) aH;clear sJ hu Uh u3 u4;go_wp2_with fail;refine(JQ F HF.out (w.heap.size+1) (bL+1) bL bS bK aH aH k3.symm ⟨by omega,k2⟩ ⟨by omega,by omega,by omega⟩ (dQ lens j) (lens j) aH _ _ HRU.out HST.out hw).mono ?_;rintro e w5 ⟨⟨rv,rfl⟩,aks,lW⟩;have qF:=hZ.below lW aH;have gQ:=aD.trans (lW.mono aH);have hw5:bL+1<=w5.heap.size:=iw hw lW.size;have aqK:=ay aks;clear aks lW hZ aD e1;go_wp2;go_roundw
    case rel=>exact⟨j+1,by omega,by go_num,by rw[dQ];go_num,aqK.out,qF,gQ,hw5⟩
    case measure=>simp[intOf] <;> omega
   ·obtain rfl:j=m:=by omega
    have HS0:Hid (StS wr (bL+1) bL bS bK F n):=by rw[<-HOM.out];exact HST.out
    obtain⟨wp,hwp⟩:∃wp,wp=wr:=⟨_,rfl⟩
    subst hwp;clear HST;rw[HOM.out];go_wp2_with fail;refine(abU n aH _).mono ?_;rintro e w5 ⟨p,rfl,hp,lW⟩;have gQ:=aD.trans (lW.mono aD.size);have qF:=hZ.kept lW;have hw5:bL+1<=w5.heap.size:=iw hw lW.size;have HS5:=ay (HS0.out.kept lW);have HP5:=ay (hp.rd.congr (g:=fun i=>F (n+i)) (fun i _=>(HHI.out i).symm));clear hp lW aD hZ HS0;go_wp2_with fail;refine(JQ F HF.out (w.heap.size+1) (bL+1) bL bS bK aH aH k3.symm ⟨by omega,k2⟩ ⟨by omega,by omega,by omega⟩ n (Tq n) (by have:=Qs.out;have:=Vq.out;omega) _ _ HP5.out HS5.out hw5).mono ?_;rintro e w6 ⟨⟨rv,rfl⟩,akr,tQ⟩;have zm:=qF.below tQ aH;have jR:=gQ.trans (tQ.mono aH);rw[Qs.out] at akr;obtain⟨vl,_,_,hs6,_⟩:=akr;have hzl:=zm.lt;clear tQ qF gQ hw5 HS5 HP5;go_upto_region 13 with(fail);refine aJ (fun w7=>aK .u8 w7 w6.heap.size 64 (fun _=>0)/\aK .u64 w7 bS 8 (iI F (N / 128))/\aK .u8 w7 w.heap.size 64 (fun _=>0)/\Below w.heap.size w w7) ⟨cB rfl (by rfl),hs6.alloc _,zm.alloc _,jR.alloc jR.size _⟩ ?_;rintro w7 ⟨ho7,hs7,Rv,pR⟩;have q6:=jR.size;clear hs6 zm jR;obtain⟨bO,hbO⟩:∃bO,bO=w6.heap.size:=⟨_,rfl⟩
    rw[<-hbO] at ho7 hzl q6 ⊢;clear hbO
    refine jZ (n:=37) 3 rfl aM aQ aQ aQ aQ rfl
     (fun ii vv ww=>(match ii with | 0=>vv=.slice (some ⟨bO,0,none⟩) 64 64 | 1=>vv=.slice (some ⟨bS,0,none⟩) 8 8 | _=>True)/\(ii=2->Rd .u8 ww vv (8 * 8) (qx (iI F (N / 128)))))
     (fun w w'=>Below w.heap.size w w') (fun _ _ h=>h) (fun i v w w' h hE=>⟨h.1,fun e=>Rd.below (h.2 e) hE⟩) rfl ?_ ?_
    ·refine dG ?_;refine⟨?_,?_,?_,(fun h=>absurd rfl h),trivial⟩
     ·intro _ a w2 hB hF hd;exact aN <| aW (gD rfl (hF.same 10 rfl) Tryz.underlying47 aQ) ⟨rfl,aP⟩
     ·intro _ a w2 hB hF hd;exact aN <| aW (gD rfl (hF.same 4 rfl) AL aQ) ⟨rfl,aP⟩
     ·intro _ a w2 hB hF hd;refine aN <| aI _ _ _ rfl Tryz.call197 _ (args1 ((hd 1 _ rfl (aj rfl)).1)) aR ((PX _ 8 (iI F (N / 128)) _ ((hs7.kept hB).rd aM) HHB.out aM).mono ?_);rintro e w3 ⟨u,rfl,hr,hb⟩;exact⟨u,rfl,⟨trivial,fun _=>hr⟩,hb⟩
    ·intro a w8 hB hF hS;obtain⟨x34,hx34⟩:∃x,x=a.tmps.getD 34 undef:=⟨_,rfl⟩
     have P34:Rd .u8 w8 x34 (8 * 8) (qx (iI F (N / 128))):=by rw[hx34];exact(hS 2 _ rfl aM).2 rfl
     obtain⟨x35,Ub⟩:∃x,x=a.tmps.getD 35 undef:=⟨_,rfl⟩
     have ha:=aO rfl rfl hF [_,_,x34,x35] rfl ⟨(hS 0 _ rfl aM).1,(hS 1 _ rfl aM).1,hx34.symm,Ub.symm,trivial⟩;simp only[puts,Act.put,fB,fD,fF] at ha;subst ha;clear hx34 Ub;clear hS hF;have Ui:=ho7.kept hB;have VN:=Rv.kept hB;have qU:=pR.trans (hB.mono pR.size);have q8:=qU.size;refine mX _ _ 23 23 rfl (e:=5) (k:=.u8) bO 0 64 64 64 (fun _=>0) mo Tryz.size5 rfl Ui x34 64 _ P34 rfl aM aM ?_;have hS9:aK .u8 (w8.setRow bO (arr .u8 64 (laid (fun _=>0) 0 64 (qx (iI F (N / 128)))))) bO 64 SB:=by
      refine(Ui.setRow 64 (laid (fun _=>0) 0 64 (qx (iI F (N / 128))))).congr (fun i hi=>?_);rw[<-DW.out];unfold laid;rw[if_pos aH,Nat.sub_zero]
     have hZ9:=VN.aC bO aH (arr .u8 64 (laid (fun _=>0) 0 64 (qx (iI F (N / 128)))));have hb9:=aB qU (show w.heap.size<=bO by omega) (arr .u8 64 (laid (fun _=>0) 0 64 (qx (iI F (N / 128)))));obtain⟨w9,hw9⟩:∃w9,w9=w8.setRow bO (arr .u8 64 (laid (fun _=>0) 0 64 (qx (iI F (N / 128))))):=⟨_,rfl⟩
     rw[<-hw9] at hS9 hZ9 hb9 ⊢;clear hw9 Ui VN qU P34 hB ho7 hs7 Rv pR;go_upto_region 14 with(fail);simp only[List.getElem_toArray,List.getElem_cons_succ,List.getElem_cons_zero,Act.put]
     go_wp2_with (first
      | (refine aZ rfl 47 _ rfl .u8 bO 64 SB 5 Tryz.underlying47 Tryz.size47 rfl hS9 ?_)
      | (refine aL rfl 47 _ _ rfl .u8 w.heap.size 64 (fun _=>0) SB Tryz.size47 rfl rfl hZ9 ?_))
     exact bodyPost_ret (bV rfl _ _ .u8 w.heap.size 64 _ 5 rfl (hZ9.setRow 64 SB) Tryz.underlying47 Tryz.size47) rfl ⟨rfl,aB hb9 (bH _) _⟩
end Go.Proofs.YtpcjekgfnfjbpaaGreat
