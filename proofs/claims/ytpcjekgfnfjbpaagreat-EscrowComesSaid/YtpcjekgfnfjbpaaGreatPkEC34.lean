/- Part 34 of EscrowComes; conditions: in each theorem. -/
import Derived.Test.YtpcjekgfnfjbpaaGreatPkEC33
import Derived.Test.YtpcjekgfnfjbpaaGreatPkEC9
import Derived.Test.YtpcjekgfnfjbpaaGreatPkEC6
import Derived.RangeFuncBox
set_option linter.unusedVariables false
set_option linter.unusedSimpArgs false
set_option maxRecDepth 100000
set_option maxHeartbeats 6400000
namespace Go.bI
def xo (a b:Int):Int:=bits .xor .u8 a b
def lV (key nonce:Nat->Int) (c:Int) (f:Nat->Int) (i:Nat):Int:=xo (vG key nonce c i) (f i)
theorem CY (f:Nat->Int) {i k:Nat} (h:i<k):(firsts f k).getD i 0=f i:=by simp[firsts,List.getD,h]
theorem Ma (f:Nat->Int) {n k:Nat} (h:n<=k):(firsts f k).take n=firsts f n:=by
 apply List.ext_getElem
 ·simp;omega
 ·intro i h1 h2;simp[firsts]
theorem Wi (a b:Int):0<=xo a b/\xo a b<256:=by
 unfold xo;show 0<=IntKind.u8.wrap _/\IntKind.u8.wrap _<256;rw[IntKind.wrap_u8];omega
end Go.bI
namespace Go.Proofs.YtpcjekgfnfjbpaaGreat
open Go.RowKit Go.bI
attribute [local go_sem ↓] Go.wp_at_zero Go.wp_at_succ
attribute [local go_sem] Oper.semAt_some
theorem Ls {P:Program} {w:World} {ops:Array Oper} {rest:List Oper} {o:Oper} {a:Act} {Q:Exit->Act->World->Prop}
  (hg:o.guard=none) (l c:Operand) (t:TypeId) (hop:o.op=Op.makeSlice t l c) (base:Nat) (e:TypeId) (k:IntKind) (bytes:Nat)
  (h1:P.underlying t=some (.slice e)) (hinfo:(P.info? e).map (fun i=>(i.zero,i.size,i.bytes))=some (some (.int k 0),1,bytes))
  (kl kc:IntKind) (n:Nat) (hl:a.eval l=.int kl 0) (hc:a.eval c=.int kc (n:Int)) (b2:bytes * n<=281474976710656) (b3:n<=9223372036854775807) (b4:base<=w.heap.size) (f:Nat->Int)
  (hK:∀w',Go.bI.Own k e base w' (.slice (some ⟨w.heap.size,0,none⟩) 0 n) 0 f->w.grownBy w' none->wpList P ops Q rest (a.put o.dst (.slice (some ⟨w.heap.size,0,none⟩) 0 n)) w'):
  wpList P ops Q (o::rest) a w:=by
 obtain⟨i,hi,hz0,hz1,hz2⟩:=info_parts hinfo;exact wpList_make_own w hg l c t hop base e i (.int k 0) 1 h1 hi hz0 hz1 kl kc n n hl hc rfl (by rw[hz2];exact b2) (by unfold maxLen;omega) b4 fun w' q1 q2=>hK w' q1 q2
theorem Tryz.size23:(Tryz.prog.info? 23).map (·.size)=some 1:=by kernel_rfl
def aav (w:World) (n bb ob c1 bo sz:Nat) (f:Nat->Int) (pre:List Int) (W:World):Prop:=
 pre.length<=n/\Boxed W bo 23 (.slice (some ⟨w.heap.size+3,0,none⟩) pre.length n)/\Go.bI.Own .u8 5 (w.heap.size+3) W (.slice (some ⟨w.heap.size+3,0,none⟩) pre.length n) pre.length (fun i=>xo (pre.getD i 0) (f i))/\
  W.cell? ⟨w.heap.size+2,0,none⟩=some (.slice (some ⟨bb,ob,none⟩) n c1)/\Below w.heap.size w W/\sz<=W.heap.size
theorem afM {k:IntKind} {e:TypeId} {base:Nat} {W W':World} {v:Value} {n:Nat} {f:Nat->Int} {row:Option Nat} (h:Go.bI.Own k e base W v n f) (hg:W.grownBy W' row) (hr:∀r,row=some r->∃o:Obj,W.heap[r]? =some o/\o.isCells=false):Go.bI.Own k e base W' v n f:=by
 refine World.ownsRow.kept h hg ?_
 cases hv:v.ownBlock with
 | none=>exact .inl rfl
 | some b=>
  refine .inr fun e=>?_;obtain⟨o,ho,hc⟩:=hr b e.symm;rcases h.2 with⟨rfl,_⟩ | ⟨g,cap,cur,rfl,_,hgg,_⟩
  ·simp[Value.ownBlock] at hv
  ·simp[Value.ownBlock] at hv;subst hv;rw[hgg] at ho;cases ho
   cases hc
theorem FQ (w:World) (n bb ob c1 bo sz:Nat) (f:Nat->Int) (B:Nat) (hB:w.heap.size<=B):OwnFrom B (aav w n bb ob c1 bo sz f):=by
 intro s W W' row hs hg hr;obtain⟨h1,h2,h3,h4,h5,h6⟩:=hs;have hr':∀r,row=some r->∃o:Obj,W.heap[r]? =some o/\o.isCells=false:=fun r e=>(hr r e).2;exact⟨h1,boxed_own bo _ (fun _=> _) () W W' row h2 hg hr',afM h3 hg hr',cell_kept h4 hg hr',h5.grown hg h5.size (fun k e=>iw hB (hr k e).1),iw h6 hg.size⟩
theorem acU (key nonce:Nat->Int) (c:Int) (hk:∀i,i<32->0<=key i/\key i<256) (hn:∀i,i<12->0<=nonce i/\nonce i<256) (hc:0<=c/\c<4294967296)
  (v:Value) (n:Nat) (f:Nat->Int) (w:World) (hv:Rd .u8 w v n f) (h0:0<n) (h1:n<=1048576) (h2:((n+63) / 64:Nat)<=4294967296 - c):
  Calls Tryz.prog 131 #[.agg (arr .u8 32 key),.agg (arr .u8 12 nonce),.int .u32 c,v] w fun e w'=>
   ∃v,e=.returned (.tuple #[v,.int .i64 0])/\Go.bI.Own .u8 5 w.heap.size w' v n (lV key nonce c f)/\Below w.heap.size w w':=by
 have HV:=ay hv;obtain⟨a1,c1,rfl,l1,m1,z1,hc1⟩:=hv;obtain⟨bb,ob,rfl,s1,hcell⟩:=hc1 aH;have uY:=ay hcell;have HK:=ay hk;have HN:=ay hn;clear z1 hc1 hcell hk hn;obtain⟨c0,cc1⟩:=hc;obtain⟨B,hB⟩:∃B:Nat,B=(n+63) / 64:=⟨_,rfl⟩
 rw[<-hB] at h2;have hdiv:Int.tdiv ((n:Int)+63) 64=(B:Int):=by rw[Zqg aH];omega
 have asE:((n:Int)+63) / 64=(B:Int):=by omega
 have yJ:=ay hB;clear hB;refine(callsIn_wide (n:=9)).1 ?_;refine callsIn_of_wp_marks Tryz.func131 rfl trivial ?_ rfl;simp only[Tryz.ntmps131,List.size_toArray,List.length_cons,List.length_nil,Nat.reduceAdd,Nat.reduceSub,Array.replicate_succ,Array.replicate_zero,List.push_toArray,List.append_toArray,List.nil_append,List.cons_append];refine wpIn_wide.2 ?_;go_upto_region 4 with(fail)
 refine aJ (fun w1=>aK .u8 w1 w.heap.size 32 key/\aK .u8 w1 (w.heap.size+1) 12 nonce/\w1.cell? ⟨w.heap.size+2,0,none⟩=some (.slice (some ⟨bb,ob,none⟩) n c1)/\Below w.heap.size w w1/\w1.heap.size=w.heap.size+3)
  ⟨aK.alloc (aK.alloc (cB rfl rfl) _) _,aK.alloc (cB aR rfl) _,by
   have:=cell_of_row (((w.alloc (.cells (arr .u8 32 key) 22)).alloc (.cells (arr .u8 12 nonce) 35)).alloc (.cells #[.slice (some ⟨bb,ob,none⟩) n c1] 23)) (w.heap.size+2) 0 #[.slice (some ⟨bb,ob,none⟩) n c1] 23 (0,0) (by
    have:=heap_alloc_new ((w.alloc (.cells (arr .u8 32 key) 22)).alloc (.cells (arr .u8 12 nonce) 35)) (.cells #[.slice (some ⟨bb,ob,none⟩) n c1] 23)
    simpa using this)
   simpa using this,(((bT _ _).alloc (bH _) _).alloc aR _).alloc iU _,by simp⟩ ?_
 rintro w1 ⟨hK1,hN1,gX,jf,hsz1⟩;go_upto_region 5 with(refine Ls rfl _ _ 23 rfl (w.heap.size+3) 5 .u8 1 mo yL .i64 .i64 n rfl rfl aH aH aH (fun i=>xo ([].getD i 0) (f i)) ?_;intro w2 cK dL);have hgb:Below w1.heap.size w1 w2:=iq (bT _ _) dL (bH _);refine aJ (fun w3=>aK .u8 w3 w.heap.size 32 key/\aK .u8 w3 (w.heap.size+1) 12 nonce/\w3.cell? ⟨w.heap.size+2,0,none⟩=some (.slice (some ⟨bb,ob,none⟩) n c1)/\Boxed w3 w2.heap.size 23 (.slice (some ⟨w.heap.size+3,0,none⟩) 0 n)/\Go.bI.Own .u8 5 (w.heap.size+3) w3 (.slice (some ⟨w.heap.size+3,0,none⟩) 0 n) 0 (fun i=>xo ([].getD i 0) (f i))/\Below w.heap.size w w3) ?_ ?_
 ·rw[hsz1] at cK;refine⟨aK.alloc (hK1.kept hgb) _,aK.alloc (hN1.kept hgb) _,?_,Boxed.new w2 23 _,cK.alloc _,(jf.trans (hgb.mono jf.size)).alloc (by have:=jf.size;have:=hgb.size;omega) _⟩;have h9:w.heap.size+2<w1.heap.size:=by omega
  exact(((bT w2.heap.size w2).alloc (bH _) _).cell (p:=⟨w.heap.size+2,0,none⟩) (qZ h9 hgb.size)).trans ((hgb.cell (p:=⟨w.heap.size+2,0,none⟩) h9).trans gX)
 rintro w3 ⟨hK3,hN3,ji,hx3,ho3,eU⟩;obtain⟨bo,hbo⟩:∃bo,bo=w2.heap.size:=⟨_,rfl⟩
 rw[<-hbo] at hx3;rw[<-hbo];have aww:w.heap.size+3<bo:=by rw[hbo];have h9:w1.heap.size<w2.heap.size:=(World.ownsRow.lt cK w1.heap.size rfl).2;omega
 clear hbo cK dL hgb hK1 hN1 gX jf hsz1
 go_wp2_with (first
  | (refine aZ rfl 22 _ rfl .u8 w.heap.size 32 _ 5 iL fZ rfl hK3 ?_)
  | (refine aZ rfl 35 _ rfl .u8 (w.heap.size+1) 12 _ 5 Tryz.underlying35 Tryz.size35 rfl hN3 ?_))
 refine(NT key nonce c _).mono ?_;rintro e w4 ⟨rfl,hK4,hN4,hc4,jF,hs4⟩;have hx4:Boxed w4 bo 23 (.slice (some ⟨w.heap.size+3,0,none⟩) 0 n):=by
  have:=hx3.lt;unfold Boxed;rw[jF.block bo this];exact hx3
 have ho4:=ho3.below jF;have lW:w4.cell? ⟨w.heap.size+2,0,none⟩=some (.slice (some ⟨bb,ob,none⟩) n c1):=(jF.cell (p:=⟨w.heap.size+2,0,none⟩) (by have:=hx3.lt;show w.heap.size+2<_;omega)).trans ji;have fU:=eU.trans (jF.mono eU.size);have s3:=eU.size;have x3:=hx3.lt;clear hK3 hN3 ji hx3 ho3 eU;go_wp2;obtain⟨WQ,acR⟩:∃WQ,WQ=w3.heap.size:=⟨_,rfl⟩
 rw[<-acR] at hK4 hN4 hc4 hs4 x3 s3 ⊢;clear jF acR;have hstop:=GL 8 aM key nonce c HK.out HN.out ⟨c0,cc1⟩ (WQ+2) WQ (WQ+1) WQ (WQ+3) w4 aH aH aH hc4 hK4 hN4;have hlen:n<=64 * (4294967296 - c.toNat):=by have:=yJ.out;omega
 refine(wpIn_wide (n:=9)).1 ?_
 refine wpIn_rangeFunc_ownF (F:=Fence.wide) (n:=9) rfl aM (gf:=228) rfl trivial (enters_of Tryz.func228 aQ rfl) hstop (fun h k=>nP.trans h k) (acI aH) (bT _ _) (fun _=>rfl)
  (fun pre W=>aav w n bb ob c1 bo (WQ+3) f pre W) (fun cd pre W=>aav w n bb ob c1 bo (WQ+3) f (pre.take n) W/\(n<pre.length/\cd=Code.exit 0)) ?hI ?hIx ?h0 ?a1 ?assign ?body ?done ?stop
 case assign=>
  intro l x W K hK
  gi_wp2
  exact hK
 case hI=>exact FQ w n bb ob c1 bo (WQ+3) f _ fU.size
 case hIx=>exact fun _=>OwnFrom.and (fun s W W' row hs hg hr=>FQ w n bb ob c1 bo (WQ+3) f _ fU.size (s.take n) W W' row hs hg hr) (ownFrom_pure _ _)
 case h0=>exact⟨jm _,hx4,ho4,lW,fU,by omega⟩
 case body=>
  rintro l pre x W ⟨i1,i2,i3,i4,i5,i6⟩ _;have hc2:=i2.cell;have hf2:=i2.frozen;have hbl:w.heap.size+1+1<W.heap.size:=World.block_lt_of_cell? _ _ i4;have apv:bb<W.heap.size:=qZ s1 i5.size;obtain⟨kk,hkk⟩:∃kk,kk=pre.length:=⟨_,rfl⟩
  rw[<-hkk] at i1 i2 i3 hc2;by_cases hlt:kk<n
  ·have gW:((kk:Int)==(n:Int))=false:=by simp;omega
   have hcell:W.cell? ⟨bb,ob+kk,none⟩=some (.int .u8 (f kk)):=(i5.cell (p:=⟨bb,ob+kk,none⟩) s1).trans (uY.out kk hlt);have HKK:=ay hkk;clear hkk
   gi_wp2
   refine Cr (n:=57) aQ 9 aM aQ aQ aQ aQ rfl
    (fun ii vv ww=>(match ii with | 0 | 3=>vv=.slice (some ⟨w.heap.size+3,0,none⟩) kk n | 1=>vv=.int .u8 (x) | 2=>vv=.slice (some ⟨bb,ob,none⟩) n c1 | 4=>vv=.int .i64 ((kk:Int)) | 5=>vv=.pointer (some ⟨bb,ob+kk,none⟩) | 6=>vv=.int .u8 (f kk) | 7=>vv=.int .u8 (bits .xor .u8 (x) (f kk)) | _=>True)/\(ii=8->Rd .u8 ww vv 1 (fun _=>bits .xor .u8 (x) (f kk))))
    (fun i v w w' h hE=>⟨h.1,fun e=>Rd.below (h.2 e) hE⟩) ?_ ?_
   ·refine dG ?_;refine⟨?_,?_,?_,?_,?_,?_,?_,?_,?_,(aP),(aP),trivial⟩
    ·intro _ a w2 hB hF hd;exact aN <| aW (eB rfl (hF.same 11 rfl) mo ((hB.cell (p:=⟨bo,0,none⟩) i2.lt).trans hc2)) ⟨rfl,aP⟩
    ·intro _ a w2 hB hF hd;exact aN <| aG _ (.inl rfl) aR ⟨(hF.same 12 rfl),aP⟩
    ·intro _ a w2 hB hF hd;exact aN <| aW (eB rfl (hF.same 7 rfl) mo ((hB.cell (p:=⟨w.heap.size+1+1,0,none⟩) hbl).trans i4)) ⟨rfl,aP⟩
    ·intro _ a w2 hB hF hd;exact aN <| aW (eB rfl (hF.same 11 rfl) mo ((hB.cell (p:=⟨bo,0,none⟩) i2.lt).trans hc2)) ⟨rfl,aP⟩
    ·intro _ a w2 hB hF hd;exact aN <| aW (oH rfl ((hd 3 _ rfl (aj rfl)).1) mo) ⟨rfl,aP⟩
    ·intro _ a w2 hB hF hd;exact aN <| aW (Aq rfl ((hd 2 _ rfl (aj rfl)).1) ((hd 4 _ rfl (aj rfl)).1) mo aQ aH aH) ⟨rfl,aP⟩
    ·intro _ a w2 hB hF hd;exact aN <| aW (bg rfl ((hd 5 _ rfl (aj rfl)).1) Tryz.underlying5 ((hB.cell (p:=⟨bb,ob+kk,none⟩) apv).trans hcell)) ⟨rfl,aP⟩
    ·intro _ a w2 hB hF hd;exact aN <| aW (Go.bI.xu rfl ((hd 1 _ rfl (aj rfl)).1) ((hd 6 _ rfl (aj rfl)).1)) ⟨rfl,aP⟩
    ·intro _ a w2 hB hF hd;exact aN <| oC 23 5 1 _ [.int .u8 (bits .xor .u8 (x) (f kk))] rfl mo aQ aQ rfl aM aM (by intro v hv;simp only[List.mem_cons,List.not_mem_nil,or_false] at hv;rcases hv with rfl<;> rfl) (by simp only[vT,List.map_cons,List.map_nil,show a.eval (Operand.tmp 53)=.int .u8 (bits .xor .u8 (x) (f kk)) from((hd 7 _ rfl (aj rfl)).1)];rfl) aR ⟨trivial,fun _=>(Ii)⟩
   ·intro a w5 hB hF hS;obtain⟨x54,agq⟩:∃x,x=a.tmps.getD 54 undef:=⟨_,rfl⟩
    have P54:Rd .u8 w5 x54 1 (fun _=>bits .xor .u8 (x) (f kk)):=by rw[agq];exact(hS 8 _ rfl aM).2 rfl
    have ha:=aO rfl rfl hF [_,_,_,_,_,_,_,_,x54] rfl ⟨(hS 0 _ rfl aM).1,(hS 1 _ rfl aM).1,(hS 2 _ rfl aM).1,(hS 3 _ rfl aM).1,(hS 4 _ rfl aM).1,(hS 5 _ rfl aM).1,(hS 6 _ rfl aM).1,(hS 7 _ rfl aM).1,agq.symm,trivial⟩;simp only[puts,List.take_succ_cons,List.take_zero,Act.put,fB,fD,fF] at ha;subst ha;change tl _ _ _ (_::_:: []) _ _;clear agq;clear hS hF;have hgt:∀i,i<kk+1->(pre++ [x]).getD i 0=if i=kk then x else pre.getD i 0:=by
     intro i hi;by_cases e:i=kk
     ·subst e;rw[if_pos rfl,HKK.out];simp
     ·rw[if_neg e];have:=HKK.out;simp[List.getD,Jh (show i<pre.length by omega)]
    have ho5:=(i3.below hB).congr (g:=fun i=>xo ((pre++ [x]).getD i 0) (f i)) (fun i hi=>by rw[hgt i aH,if_neg aH]);refine rz rfl (BF _ _ 23 rfl (w.heap.size+3) 5 .u8 1 mo yL (w.heap.size+3) kk n _ ho5 rfl _ 1 _ aM P54 rfl (acf (f:=fun i=>xo ((pre++ [x]).getD i 0) (f i)) (x:=bits .xor .u8 x (f kk)) (by show xo ((pre++ [x]).getD kk 0) (f kk)= _;rw[hgt kk aH,if_pos rfl];rfl)) aH ?_);intro w6 ho6 Uj;have hx5:Boxed w5 bo 23 (.slice (some ⟨w.heap.size+3,0,none⟩) kk n):=by unfold Boxed;rw[hB.block bo i2.lt];exact i2
    have hx6:Boxed w6 bo 23 (.slice (some ⟨w.heap.size+3,0,none⟩) kk n):=hx5.kept Uj (by intro e;have:=gJ e;omega);refine rz rfl (wO 23 _ _ rfl rfl bo (.slice (some ⟨w.heap.size+3,0,none⟩) (kk+1) n) _ rfl rfl Tryz.size23 rfl rfl hx6.cell hx6.frozen (BP ?_));have agP:∃cs,w5.heap[w.heap.size+3]? =some (.cells cs 5 (0,0)):=by obtain⟨cs,h,_⟩:=ho5.rows;exact⟨cs,h⟩
    have awj:=Uj.size;have awi:=hB.size;refine⟨((KeepsOthers.of_grownBy (row:=none) ⟨hB.os,hB.tape,hB.output,hB.size,fun k hk _=>hB.block k hk⟩ (fun j o e=>by cases e)).trans (KeepsOthers.of_grownBy Uj (fun j o e h=>by
      obtain rfl:=gJ e;obtain⟨cs,hcs⟩:=agP;rw[hcs] at h;cases h;rfl))).trans (KeepsOthers.setCell _ _ _),⟨by rw[size_setCell];omega,fun b gX fO=>?_⟩,by have:=HKK.out;simp;omega,?_,?_,?_,?_,by rw[size_setCell];omega⟩
    ·rw[heap_setCell_other w6 ⟨bo,0,none⟩ b _ iU,Uj.block b aH (by intro e;have:=gJ e;omega),hB.block b aH]
    ·have:=hx6.set (.slice (some ⟨w.heap.size+3,0,none⟩) (kk+1) n)
     simpa [HKK.out] using this
    ·have hl:(pre++ [x]).length=kk+1:=by simp[HKK.out]
     rw[hl];exact World.ownsRow.kept (row:=some bo) ho6 (Gr.set (Gr.refl w6 bo) 0 _) (.inr (by simp[Value.ownBlock];omega))
    ·rw[World.cell?_of_block (heap_setCell_other w6 ⟨bo,0,none⟩ (w.heap.size+2) _ iU)];exact(World.cell?_of_block (Uj.block (w.heap.size+2) aH (by intro e;have:=gJ e;omega))).trans ((hB.cell (p:=⟨w.heap.size+2,0,none⟩) hbl).trans i4)
    ·exact(aai (i5.trans (hB.mono i5.size)) Uj aH (by have:=i5.size;omega)).setCell iU _
  ·obtain rfl:kk=n:=by omega
   have HKK:=ay hkk;clear hkk hlt
   gi_wp2
   have ht:(pre++ [x]).take kk=pre:=by rw[HKK.out];simp
   refine⟨KeepsOthers.refl _,?_,by have:=HKK.out;simp;omega,rfl⟩;rw[ht];exact⟨by rw[<-HKK.out];exact bH _,by rw[<-HKK.out];exact i2,by rw[<-HKK.out];exact i3,i4,i5,i6⟩
 case done=>
  rintro D ys W hD rfl ⟨i1,i2,i3,i4,i5,i6⟩ hKD;rw[mW] at i1 i2 i3;have hnn:64 * (4294967296 - c.toNat)=n:=by omega
  rw[hnn] at i2 i3;have hfin:=i3.congr (g:=lV key nonce c f) (fun i hi=>by
   show xo ((firsts (vG key nonce c) _).getD i 0) (f i)= _;rw[CY _ aH];rfl)
  have hc2:=i2.cell;have YM:Below w.heap.size w (W.putObj D (.deferred none)):=i5.trans (belowK_b (w:=w) (bH _) W D _ _ (by have:=fU.size;omega) hKD rfl rfl);have agA:Go.bI.Own .u8 5 w.heap.size (W.putObj D (.deferred none)) (.slice (some ⟨w.heap.size+3,0,none⟩) n n) n (lV key nonce c f):=Go.bI.Own.mono (ownsRow_putObj hfin _ hKD rfl) aH;clear i1 i3 i4 hnn;go_wp2;refine⟨by simp,.inl ⟨_,_,rfl,run_takeDeferred hKD,?_⟩⟩;exact⟨.tuple #[.slice (some ⟨w.heap.size+3,0,none⟩) n n,.int .i64 0],by simp[results,Tryz.results131],_,rfl,agA,YM⟩
 case stop=>
  rintro D cd pre W hD ⟨k,hk,rfl⟩ ⟨⟨i1,i2,i3,i4,i5,i6⟩,hlt,rfl⟩ hKD;rw[mW] at hlt;rw[Ma _ (Nat.le_of_lt hlt)] at i1 i2 i3;rw[mW] at i1 i2 i3;have hfin:=i3.congr (g:=lV key nonce c f) (fun i hi=>by
   show xo ((firsts (vG key nonce c) n).getD i 0) (f i)= _;rw[CY _ hi];rfl)
  have hc2:=i2.cell;have YM:Below w.heap.size w (W.putObj D (.deferred none)):=i5.trans (belowK_b (w:=w) (bH _) W D _ _ (by have:=fU.size;omega) hKD rfl rfl);have agA:Go.bI.Own .u8 5 w.heap.size (W.putObj D (.deferred none)) (.slice (some ⟨w.heap.size+3,0,none⟩) n n) n (lV key nonce c f):=Go.bI.Own.mono (ownsRow_putObj hfin _ hKD rfl) aH;clear i1 i3 i4
  gi_wp2
  go_wp2;refine⟨by simp,.inl ⟨_,_,rfl,run_takeDeferred hKD,?_⟩⟩;exact⟨.tuple #[.slice (some ⟨w.heap.size+3,0,none⟩) n n,.int .i64 0],by simp[results,Tryz.results131],_,rfl,agA,YM⟩
theorem YH (key nonce:Nat->Int) (c:Int) (hc:0<=c/\c<4294967296) (v:Value) (f:Nat->Int) (w:World) (hv:Rd .u8 w v 0 f):
  Calls Tryz.prog 131 #[.agg (arr .u8 32 key),.agg (arr .u8 12 nonce),.int .u32 c,v] w fun e w'=>
   ∃v,e=.returned (.tuple #[v,.int .i64 0])/\Go.bI.Own .u8 5 w.heap.size w' v 0 (lV key nonce c f)/\Below w.heap.size w w':=by
 obtain⟨a1,c1,rfl,l1,m1,z1,hc1⟩:=hv;clear z1 hc1;obtain⟨c0,cc1⟩:=hc
 go_enter Tryz.func131,Tryz.ntmps131
 go_upto_region 4 with(fail)
 refine aJ (fun w1=>w1.cell? ⟨w.heap.size+2,0,none⟩=some (.slice a1 0 c1)/\Below w.heap.size w w1/\w1.heap.size=w.heap.size+3)
  ⟨by
   have:=cell_of_row (((w.alloc (.cells (arr .u8 32 key) 22)).alloc (.cells (arr .u8 12 nonce) 35)).alloc (.cells #[.slice a1 0 c1] 23)) (w.heap.size+2) 0 #[.slice a1 0 c1] 23 (0,0) (by
    have:=heap_alloc_new ((w.alloc (.cells (arr .u8 32 key) 22)).alloc (.cells (arr .u8 12 nonce) 35)) (.cells #[.slice a1 0 c1] 23)
    simpa using this)
   simpa using this,(((bT _ _).alloc (bH _) _).alloc aR _).alloc iU _,by simp⟩ ?_
 rintro w1 ⟨gX,jf,hsz1⟩;have Ng:=ay hsz1;clear hsz1;go_upto_region 5 with(refine Ls rfl _ _ 23 rfl w.heap.size 5 .u8 1 mo yL .i64 .i64 0 rfl rfl aH aH jf.size (lV key nonce c f) ?_;intro w2 cK dL);have hgb:Below w1.heap.size w1 w2:=iq (bT _ _) dL (bH _);refine aJ (fun w3=>w3.cell? ⟨w.heap.size+2,0,none⟩=some (.slice a1 0 c1)/\Boxed w3 w2.heap.size 23 (.slice (some ⟨w1.heap.size,0,none⟩) 0 0)/\Go.bI.Own .u8 5 w.heap.size w3 (.slice (some ⟨w1.heap.size,0,none⟩) 0 0) 0 (lV key nonce c f)/\Below w.heap.size w w3) ⟨?_,Boxed.new w2 23 _,cK.alloc _,(jf.trans (hgb.mono jf.size)).alloc (by have:=jf.size;have:=hgb.size;omega) _⟩ ?_
 ·have h9:w.heap.size+2<w1.heap.size:=by have:=Ng.out;omega
  exact(((bT w2.heap.size w2).alloc (bH _) _).cell (p:=⟨w.heap.size+2,0,none⟩) (qZ h9 hgb.size)).trans ((hgb.cell (p:=⟨w.heap.size+2,0,none⟩) h9).trans gX)
 rintro w3 ⟨ji,hx3,hr3,eU⟩;have hc3:=hx3.cell;have HR3:=ay hr3;clear cK dL hgb gX jf hr3 hx3;go_wp2;go_ret2;exact⟨_,rfl,HR3.out,eU⟩
theorem LK (key nonce:Nat->Int) (c:Int) (hk:∀i,i<32->0<=key i/\key i<256) (hn:∀i,i<12->0<=nonce i/\nonce i<256) (hc:0<=c/\c<4294967296)
  (v:Value) (n:Nat) (f:Nat->Int) (w:World) (hv:Rd .u8 w v n f) (h1:n<=1048576) (h2:((n+63) / 64:Nat)<=4294967296 - c):
  Calls Tryz.prog 131 #[.agg (arr .u8 32 key),.agg (arr .u8 12 nonce),.int .u32 c,v] w fun e w'=>
   ∃v,e=.returned (.tuple #[v,.int .i64 0])/\Go.bI.Own .u8 5 w.heap.size w' v n (lV key nonce c f)/\Below w.heap.size w w':=by
 by_cases h0:n=0
 ·subst h0;exact YH key nonce c hc v f w hv
 ·exact acU key nonce c hk hn hc v n f w hv aH h1 h2
theorem YI (key nonce:Nat->Int) (c:Int) (hk:∀i,i<32->0<=key i/\key i<256) (hn:∀i,i<12->0<=nonce i/\nonce i<256) (hc:0<=c/\c<4294967296)
  (v:Value) (n:Nat) (f:Nat->Int) (w:World) (hv:Rd .u8 w v n f) (h1:n<=1048576) (h2:((n+63) / 64:Nat)<=4294967296 - c):
  Calls Tryz.prog 131 #[.agg (arr .u8 32 key),.agg (arr .u8 12 nonce),.int .u32 c,v] w fun e w'=>
   ∃v,e=.returned (.tuple #[v,.int .i64 0])/\Rd .u8 w' v n (lV key nonce c f)/\Below w.heap.size w w':= 
 (LK key nonce c hk hn hc v n f w hv h1 h2).mono fun _ _ ⟨v,h1,h2,h3⟩=>⟨v,h1,h2.rd,h3⟩
end Go.Proofs.YtpcjekgfnfjbpaaGreat
