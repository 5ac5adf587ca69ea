/- Part 45 of SuiteBytes; conditions: in each theorem. -/
import Derived.Test.YtpcjekgfnfjbpaaGreatPkSuiteBytes34
import Derived.Test.YtpcjekgfnfjbpaaGreatPkSuiteBytes40
import Derived.Test.YtpcjekgfnfjbpaaGreatPkSuiteBytes44
set_option linter.unusedVariables false
set_option linter.unusedSimpArgs false
set_option maxRecDepth 100000
set_option maxHeartbeats 6400000
namespace Go.bC
open Go.RowKit
theorem Rd.BK {k:IntKind} {w:World} {a:Option Addr} {n c:Nat} {f:Nat->Int} (h:Rd k w (.slice a n c) n f) (hn:0<n):∃b o,a=some ⟨b,o,none⟩/\b<w.heap.size/\∀i,i<n->w.cell? ⟨b,o+i,none⟩=some (.int k (f i)):=by
 obtain⟨a',c',he,_,_,_,h4⟩:=h;obtain⟨b,o,rfl,hb,hc⟩:=h4 hn;simp only[DV,true_and] at he;exact⟨b,o,he.1,hb,hc⟩
section
variable {P : Program} {o : Oper} {a : Act} {w : World} {Q : Exit -> Act -> World -> Prop}
theorem Dp {T e:TypeId} {x:Operand} {b off n:Nat} (ho:o.op=.slice T x none none none) (hx:a.eval x=.pointer (some ⟨b,off,none⟩))
  (hu:P.underlying T=some (.array n e)) (hi:(P.info? e).map (·.size)=some 1):(execOp a.eval o).run P w=.ok (.value (.slice (some ⟨b,off,none⟩) n n)) w:=by
 obtain⟨i,h1,h2⟩:=Option.map_eq_some_iff.1 hi;unfold execOp;simp only[ho,hx];simp[Instr.sliceAt,Instr.sureAddr,run_underlying hu,Instr.sliceBounds,sizeOf,typeInfo,h1,h2];exact fun _=>rfl
theorem oL {T e:TypeId} {b n m:Nat} (hu:P.underlying T=some (.array n e)) (hi:(P.info? e).map (·.size)=some 1) (hm:m<n):
  (Instr.sliceAt T (.pointer (some ⟨b,0,none⟩)) (some (.int .i64 (m:Int))) none none).run P w=.ok (.slice (some ⟨b,m,none⟩) (n - m) (n - m)) w:=by
 obtain⟨i,h1,h2⟩:=Option.map_eq_some_iff.1 hi;have hm':m<=n:=by omega
 simp[Instr.sliceAt,Instr.sureAddr,run_underlying hu,Instr.sliceBounds,run_sliceBound,sizeOf,typeInfo,h1,h2,hm',Addr.add];rw[if_neg aH];by_cases h0:m=0
 ·rw[if_pos h0,h0]
 ·rw[if_neg h0]
theorem VE {T:TypeId} {x:Operand} {cs:Array Value} {S:Value->World->Prop} (ho:o.op=.box T x) (hx:a.eval x=.agg cs) (gB:cs≠ #[]) (hd:o.dst≠none)
  (hs:S (.pointer (some ⟨w.heap.size,0,none⟩)) (w.alloc (.cells cs T))):
  o.wp P a w (fun a' w'=> ∃v,a'=a.put o.dst v/\(o.dst=none->v=undef)/\S v w'/\Below w.heap.size w w') Q:=by
 have hr:(execOp a.eval o).run P w=.ok (.value (.pointer (some ⟨w.heap.size,0,none⟩))) (w.alloc (.cells cs T)):=by
  unfold execOp;simp only[ho,hx];simp[newVar,newRow,gB,Value.cells,go_sem]
 unfold Oper.wp;rw[hr];exact⟨_,rfl,fun h=>absurd h hd,hs,(bT _ _).alloc (bB _) _⟩
end
def Oe (A P U:Nat->Int):Array Value:=(vals .u8 32 A++(vals .u8 32 P++(vals .u8 32 U++ [Value.bool true]))).toArray
theorem aac (A P U:Nat->Int) {i:Nat} (h:i<32):(Oe A P U)[i]? =some (.int .u8 (A i)):=by
 unfold Oe;rw[List.getElem?_toArray,NM (by simpa using h),dS h]
theorem aeU (A P U:Nat->Int) {i:Nat} (h:i<32):(Oe A P U)[32+i]? =some (.int .u8 (P i)):=by
 unfold Oe;rw[List.getElem?_toArray,IQ aR,dO,NM (by simp;omega),show 32+i - 32=i by omega,dS h]
theorem ZY (A P U:Nat->Int) {i:Nat} (h:i<32):(Oe A P U)[64+i]? =some (.int .u8 (U i)):=by
 unfold Oe;rw[List.getElem?_toArray,IQ (by simp;omega),dO,IQ (by simp;omega),dO,NM (by simp;omega),show 64+i - 32 - 32=i by omega,dS h]
theorem abA (A P U:Nat->Int):(Oe A P U)[96]? =some (.bool true):=by
 unfold Oe;rw[List.getElem?_toArray,IQ aR,dO,IQ aR,dO,IQ aR,dO]
 rfl
def xK (w:World) (v:Value) (A P U:Nat->Int):Prop:=∃b,v=.pointer (some ⟨b,0,none⟩)/\fB w b (Oe A P U)
theorem xK.below {w w':World} {v:Value} {A P U:Nat->Int} (h:xK w v A P U) (hb:Below w.heap.size w w'):xK w' v A P U:=by
 obtain⟨b,e,h⟩:=h;exact⟨b,e,h.kept hb⟩
theorem fB.aeW {w:World} {b:Nat} {A P U:Nat->Int} (h:fB w b (Oe A P U)):Rd .u8 w (.slice (some ⟨b,0,none⟩) 32 32) 32 A/\Rd .u8 w (.slice (some ⟨b,32,none⟩) 32 32) 32 P/\Rd .u8 w (.slice (some ⟨b,64,none⟩) 32 32) 32 U:=
 ⟨⟨_,_,rfl,bB _,by decide,(fun h=>by cases h),fun _=>⟨b,0,rfl,h.lt,fun i hi=>by rw[oD];exact h.cell i (aac A P U hi)⟩⟩,
  ⟨_,_,rfl,bB _,by decide,(fun h=>by cases h),fun _=>⟨b,32,rfl,h.lt,fun i hi=>h.cell (32+i) (aeU A P U hi)⟩⟩,
  ⟨_,_,rfl,bB _,by decide,(fun h=>by cases h),fun _=>⟨b,64,rfl,h.lt,fun i hi=>h.cell (64+i) (ZY A P U hi)⟩⟩⟩
theorem Yv {w w':World} {v u:Value} {n m:Nat} {f g:Nat->Int} {T:TypeId} (h:Rd .u8 w v n f) (h':Rd .u8 w u m g) (hb:Below w.heap.size w w'):
  oq (w'.alloc (.cells [v,u].toArray T)) (.slice (some ⟨w'.heap.size,0,none⟩) 2 2) 2 (iV 1 (fun _=>n) (fun _=>m)) (jP 1 (fun _=>f) (fun _=>g)):=
 oq.new aN fun j hj=>by
  rcases(by omega:j=0\/j=1) with rfl | rfl
  ·exact⟨v,rfl,h.below hb⟩
  ·exact⟨u,rfl,h'.below hb⟩
def xO (w:World) (v:Value) (T:TypeId) (n:Nat) (cs:Array Value):Prop:=∃b,v=.slice (some ⟨b,0,none⟩) n n/\w.heap[b]? =some (.cells cs T (0,0))
theorem xO.aao {Ts:List TypeId} {w w':World} {v:Value} {T:TypeId} {n:Nat} {cs:Array Value} (hT:Ts.contains T=false) (h:xO w v T n cs) (hk:tQ Ts w w'):xO w' v T n cs:=by
 obtain⟨b,e,h⟩:=h;exact⟨b,e,hk b cs T hT h⟩
theorem xO.aeO {w:World} {v v1 v2 v3:Value} {T:TypeId} {n m k:Nat} {f g e:Nat->Int} (h:xO w v T 3 [v1,v2,v3].toArray) (h1:Rd .u8 w v1 n f) (h2:Rd .u8 w v2 m g) (h3:Rd .u8 w v3 k e):
  oq w v 3 (iV 1 (fun _=>n) (iV 1 (fun _=>m) (fun _=>k))) (jP 1 (fun _=>f) (jP 1 (fun _=>g) (fun _=>e))):=by
 obtain⟨b,rfl,h⟩:=h;refine⟨_,_,rfl,bB _,by decide,fun _=>⟨b,0,rfl,(Array.getElem?_eq_some_iff.1 h).1,fun j hj=>?_⟩⟩;rw[oD,cell_of_row _ _ _ _ T (0,0) h];rcases(by omega:j=0\/j=1\/j=2) with rfl | rfl | rfl
 ·exact⟨v1,rfl,h1⟩
 ·exact⟨v2,rfl,h2⟩
 ·exact⟨v3,rfl,h3⟩
theorem Uz {f g:Nat->Int}:∀i,i<64->laid (laid (fun _=>0) 0 32 f) 32 32 g i=fO 32 f g i:=by
 intro i hi;unfold laid fO;by_cases h:i<32
 ·rw[if_neg aH,if_pos aH,if_pos h,Nat.sub_zero]
 ·rw[if_pos aH,if_neg h]
end Go.bC
namespace Go.bC
theorem Tk {X Y:Int} (h0:0<=X) (h1:X<256 ^ 32) (h2:0<=Y) (h3:Y<256 ^ 32):lX 32 (dg 256 X) (dg 256 Y)=decide (X=Y):=by
 by_cases h:X=Y
 ·rw[h,decide_eq_true rfl];exact nV
 ·rw[decide_eq_false h];refine pU fun e=>h ?_;have h4:=pO (B:=256) (n:=32) e
  rwa [rF aN,rF aN,uO h0 h1,uO h2 h3] at h4
end Go.bC
namespace Go.Proofs.YtpcjekgfnfjbpaaGreat
open Go.RowKit Go.bC Go.ChangeShapes
attribute [local go_sem ↓] Go.wp_at_zero Go.wp_at_succ
def yA (n:Nat) (f:Nat->Int):Nat:=(sm 256 (gJ n f) 64 % Q).toNat
theorem yx (n:Nat) (f:Nat->Int):((yA n f:Nat):Int)=sm 256 (gJ n f) 64 % Q:=Int.toNat_of_nonneg (zN _ aN)
theorem wR (n:Nat) (f:Nat->Int):yA n f<jo:=by
 have h:=yx n f;have h2:=FC (sm 256 (gJ n f) 64) (show (0:Int)<Q by decide);have h3:Q=(jo:Int):=by decide
 omega
theorem vY (v:Value) (m:Nat) (lens:Nat->Nat) (g:Nat->Nat->Int) (n:Nat) (f:Nat->Int) (w:World) (hv:oq w v m lens g) (hg:∀j,j<m->∀i,i<lens j->f (fq lens j+i)=g j i) (hn:fq lens m=n) (hn2:n<=1000000) (hf:∀i,i<n->0<=f i/\f i<256):
  Calls Tryz.prog 156 #[v] w fun e w'=>e=.returned (.agg (arr .u8 32 (dg 256 ((yA n f:Nat):Int))))/\Below w.heap.size w w':=by
 obtain⟨SB,xu⟩:∃SB,SB=gJ n f:=⟨_,rfl⟩
 have HS:=ak (fun w' (h:oq w' v m lens g)=>vQ v m lens g n f w' h hg hn hn2 hf);have HV:=ak hv;have CW:Hid (∀w u,Rd .u8 w u 64 SB->Calls Tryz.prog 216 #[u] w fun e w'=>e=.returned (.tuple #[.agg (arr .u8 32 (dg 256 ((yA n f:Nat):Int))),.int .i64 0])/\Below w.heap.size w w'):=fun w u hu=>by
  have h:=agR u 64 SB w hu (fun i _=>by rw[xu];exact fM n f i) aN;rw[yx,←xu];exact h
 obtain⟨R,hR⟩:∃R,R=yA n f:=⟨_,rfl⟩
 rw[<-hR] at CW ⊢;rw[<-xu] at HS;clear xu hR hg hn hn2 hf hv
 go_enter Tryz.func156,Tryz.ntmps156
 go_upto_region 1 with(fail);refine aJ (fun w1=>aQ .u8 w1 w.heap.size 32 (fun _=>0)/\Below w.heap.size w w1) ⟨bU rfl (by rfl),(bT _ _).alloc (bB _) _⟩ ?_;rintro w1 ⟨hZ,aA⟩;have hz1:=hZ.lt
 refine bG (n:=14) aS aS aS rfl
  (gZ [(3,2)]) (eZ [(3,2)]) (fun _=>arr .u8 64 (fun _=>0)) (fun _=>(arr .u8 64 (SB))) (fun _=>47) (fun _=>3)
  (fun ii vv _=>(match ii with | 0=>vv=v | 1=>vv=.agg (arr .u8 64 (SB)) | _=>True)) (fun _ _=>True) (fun _ _ _=>trivial) (fun _ _ _ _ _ _ _=>trivial) (fun _ _ _ _ h _=>h)
  (fJ rfl) (dU rfl) ?_ ?_ ?_ ?_
 ·refine cB ?_;refine⟨?_,?_,(fun h=>by cases h),(fun _ h=>by cases h),trivial⟩
  ·intro _ _ a w2 hB hF hd;exact aO <| aB _ (.inl rfl) aR (hF.same 0 rfl)
  ·intro _ _ a w2 hB hF hd;refine aO <| aD _ _ _ rfl Tryz.call139 _ (args1 (hd 0 _ rfl rfl rfl (aj rfl))) aR ((HS.out _ (HV.out.below (aA.trans (hB.mono aA.size)))).mono ?_);rintro e w3 ⟨rfl,hb⟩;exact⟨_,rfl,rfl,hb⟩
 ·refine cB ?_;refine⟨(fun h=>by cases h),(fun h=>by cases h),?_,(fun h=>by cases h),trivial⟩
  ·exact fun _=>⟨rfl,rfl,fun a w2 K h=>aZ rfl rfl Tryz.zeroValue47 aR h⟩
 ·refine cB ?_;refine⟨(fun _ h=>by cases h),(fun _ h=>by cases h),(fun _ h=>by cases h),?_,trivial⟩
  ·intro p hp;obtain rfl:2=p:=iy hp;exact⟨rfl,rfl,⟨_,rfl⟩,aj rfl,fun a w2 b K hB hF hd hx hb h=>bJ rfl rfl zy hx (hd 1 _ rfl rfl rfl (aj rfl)) hb h⟩
 ·intro a w2 blk hB hF hS hv hfin dw;obtain⟨v2,Px,XJ⟩:=hv 2 _ rfl rfl;have ha:=aP rfl rfl hF [_,_,_,undef] rfl ⟨hS 0 _ rfl rfl rfl,hS 1 _ rfl rfl rfl,v2,trivial,trivial⟩;have f2:=hfin 3 _ 2 rfl rfl;simp only[puts,Act.put,dK,dL,dM] at ha;subst ha;have V2:aQ .u8 w2 (blk 2) 64 (SB):=⟨_,f2⟩
  clear hS hv hfin dw hF v2 f2;replace hZ:=hZ.kept hB;replace aA:=aA.trans (hB.mono aA.size);obtain⟨q,hq⟩:∃q,q=blk 2:=⟨_,rfl⟩
  rw[<-hq] at V2 Px ⊢;have h3:=V2;have hl3:=h3.lt;have hql:w.heap.size<q:=by omega
  clear hq hB V2 Px XJ hz1;go_upto_region 2 with(fail)
  refine bG (n:=14) aS aS aS rfl
   (gZ [(6,5)]) (eZ [(6,5)]) (fun _=>arr .u8 32 (fun _=>0)) (fun _=>(arr .u8 32 (dg 256 (R:Int)))) (fun _=>22) (fun _=>4)
   (fun ii vv _=>(match ii with | 0=>vv=.slice (some ⟨q,0,none⟩) 64 64 | 1 | 2=>vv=.tuple #[.agg (arr .u8 32 (dg 256 (R:Int))),.int .i64 (0)] | 3=>vv=.agg (arr .u8 32 (dg 256 (R:Int))) | 4 | 7=>vv=.int .i64 (0) | _=>True)) (fun _ _=>True) (fun _ _ _=>trivial) (fun _ _ _ _ _ _ _=>trivial) (fun _ _ _ _ h _=>h)
   (fJ rfl) (dU rfl) ?_ ?_ ?_ ?_
  ·refine cB ?_;refine⟨?_,?_,?_,?_,?_,(fun h=>by cases h),(fun _ h=>by cases h),?_,trivial⟩
   ·intro _ _ a w2 hB hF hd;exact aO <| aT (fC rfl (hF.same 3 rfl) FD aS) rfl
   ·intro _ _ a w2 hB hF hd;refine aO <| aD _ _ _ rfl Tryz.call216 _ (args1 (hd 0 _ rfl rfl rfl (aj rfl))) aR ((CW.out w2 _ ((h3.kept hB).rd aN)).mono ?_);rintro e w3 ⟨rfl,hb⟩;exact⟨_,rfl,rfl,hb⟩
   ·intro _ _ a w2 hB hF hd;exact aO <| aB _ (.inl rfl) aR (hd 1 _ rfl rfl rfl (aj rfl))
   ·intro _ _ a w2 hB hF hd;exact aO <| aT (fV rfl (hd 2 _ rfl rfl rfl (aj rfl)) rfl) rfl
   ·intro _ _ a w2 hB hF hd;exact aO <| aT (fV rfl (hd 2 _ rfl rfl rfl (aj rfl)) rfl) rfl
   ·intro _ _ a w2 hB hF hd;exact aO <| aB _ (.inr rfl) aR (hd 4 _ rfl rfl rfl (aj rfl))
  ·refine cB ?_;refine⟨(fun h=>by cases h),(fun h=>by cases h),(fun h=>by cases h),(fun h=>by cases h),(fun h=>by cases h),?_,(fun h=>by cases h),(fun h=>by cases h),trivial⟩
   ·exact fun _=>⟨rfl,rfl,fun a w2 K h=>aZ rfl rfl Tryz.zeroValue22 aR h⟩
  ·refine cB ?_;refine⟨(fun _ h=>by cases h),(fun _ h=>by cases h),(fun _ h=>by cases h),(fun _ h=>by cases h),(fun _ h=>by cases h),(fun _ h=>by cases h),?_,(fun _ h=>by cases h),trivial⟩
   ·intro p hp;obtain rfl:5=p:=iy hp;exact⟨rfl,rfl,⟨_,rfl⟩,aj rfl,fun a w2 b K hB hF hd hx hb h=>bJ rfl rfl dh hx (hd 3 _ rfl rfl rfl (aj rfl)) hb h⟩
  ·intro a w4 blk hB hF hS hv hfin dw;obtain⟨v5,xQ,FR⟩:=hv 5 _ rfl rfl;have ha:=aP rfl rfl hF [_,_,_,_,_,_,undef,_] rfl ⟨hS 0 _ rfl rfl rfl,hS 1 _ rfl rfl rfl,hS 2 _ rfl rfl rfl,hS 3 _ rfl rfl rfl,hS 4 _ rfl rfl rfl,v5,trivial,hS 7 _ rfl rfl rfl,trivial⟩;have f5:=hfin 6 _ 5 rfl rfl;simp only[puts,Act.put,dK,dL,dM] at ha;subst ha;have V5:aQ .u8 w4 (blk 5) 32 (dg 256 (R:Int)):=⟨_,f5⟩
   clear hS hv hfin dw hF v5 f5;replace hZ:=hZ.kept hB;replace aA:=aA.trans (hB.mono aA.size);obtain⟨x4,e4⟩:∃x,x=blk 5:=⟨_,rfl⟩
   rw[<-e4] at V5 ⊢;have h4:=V5;clear e4 hB V5 xQ FR h3
   go_wp2_with (first
    | (refine bq rfl 22 _ rfl .u8 x4 32 (dg 256 (R:Int)) 5 dY dh rfl h4 ?_)
    | (refine aM rfl 22 _ _ rfl .u8 w.heap.size 32 (fun _=>0) (dg 256 (R:Int)) dh rfl rfl hZ ?_))
   exact bodyPost_ret (bg rfl _ _ .u8 w.heap.size 32 _ 5 rfl (hZ.setRow _ _) dY dh) rfl ⟨rfl,aC aA (bB _) _⟩
theorem abB (v:Value) (n1 n2:Nat) (f1 f2:Nat->Int) (w:World) (hv:oq w v 2 (iV 1 (fun _=>n1) (fun _=>n2)) (jP 1 (fun _=>f1) (fun _=>f2))) (hl:n1+n2<=1000000) (h1:∀i,i<n1->0<=f1 i/\f1 i<256) (h2:∀i,i<n2->0<=f2 i/\f2 i<256):
  Calls Tryz.prog 156 #[v] w fun e w'=>e=.returned (.agg (arr .u8 32 (dg 256 ((yA (n1+n2) (fO n1 f1 f2):Nat):Int))))/\Below w.heap.size w w':=by
 have e1:fq (fun _=>n1) 1=n1:=by simp[fq]
 have e2:fq (fun _=>n2) 1=n2:=by simp[fq]
 have h:=lI (F1:=f1) (F2:=f2) (uz (f:=f1) (n:=n1)).1 (uz (f:=f2) (n:=n2)).1;rw[e1] at h;exact vY v (1+1) _ _ (n1+n2) _ w hv h (by rw[mo,e1,e2]) hl (fU h1 h2)
theorem Tg (v:Value) (n1 n2 n3:Nat) (f1 f2 f3:Nat->Int) (w:World) (hv:oq w v 3 (iV 1 (fun _=>n1) (iV 1 (fun _=>n2) (fun _=>n3))) (jP 1 (fun _=>f1) (jP 1 (fun _=>f2) (fun _=>f3)))) (hl:n1+(n2+n3)<=1000000) (h1:∀i,i<n1->0<=f1 i/\f1 i<256) (h2:∀i,i<n2->0<=f2 i/\f2 i<256) (h3:∀i,i<n3->0<=f3 i/\f3 i<256):
  Calls Tryz.prog 156 #[v] w fun e w'=>e=.returned (.agg (arr .u8 32 (dg 256 ((yA (n1+(n2+n3)) (fO n1 f1 (fO n2 f2 f3)):Nat):Int))))/\Below w.heap.size w w':=by
 have e1:fq (fun _=>n1) 1=n1:=by simp[fq]
 have e2:fq (fun _=>n2) 1=n2:=by simp[fq]
 have e3:fq (fun _=>n3) 1=n3:=by simp[fq]
 have h:=lI (F1:=f2) (F2:=f3) (uz (f:=f2) (n:=n2)).1 (uz (f:=f3) (n:=n3)).1;rw[e2] at h;have hh:=lI (F1:=f1) (uz (f:=f1) (n:=n1)).1 h;rw[e1] at hh;exact vY v (1+(1+1)) _ _ (n1+(n2+n3)) _ w hv hh (by rw[mo,mo,e1,e2,e3]) hl (fU h1 (fU h2 h3))
def Ew (S:Int):Nat->Int:=gJ 32 (dg 256 S)
def uT (S:Int):Nat:=(gV (sm 256 (Ew S) 32)).toNat
def oV (S:Int) (i:Nat):Int:=Ew S (32+i)
noncomputable def qH (S:Int):Int:=dB (Bp.mul (uT S))
theorem KQ (X:Int):0<=gV X/\gV X<2 ^ 256:=by unfold gV;omega
theorem AO (S:Int):((uT S:Nat):Int)=gV (sm 256 (Ew S) 32):=Int.toNat_of_nonneg (KQ _).1
theorem Gg (S:Int):uT S<2 ^ 256:=by have:=AO S;have:=KQ (sm 256 (Ew S) 32);omega
theorem aae (S:Int) (i:Nat):0<=oV S i/\oV S i<256:=fM _ _ _
theorem WE (A P U:Nat->Int) (w:World):(Instr.build 244 #[(0,.agg (arr .u8 32 A)),(1,.agg (arr .u8 32 P)),(2,.agg (arr .u8 32 U)),(3,.bool true)]).run Tryz.prog w=.ok (.agg (Oe A P U)) w:=
 Go.run_build w _ _ (Oe A P U) aS
theorem Ev (S:Int) (w:World):Calls Tryz.prog 143 #[.agg (arr .u8 32 (dg 256 S))] w fun e w'=> ∃r,e=.returned r/\xK w' r (dg 256 ((uT S:Nat):Int)) (oV S) (dg 256 (qH S))/\Below w.heap.size w w':=by
 have ZL:Hid (∀i,oV S i=Ew S (32+i)):=fun _=>rfl;have Lj:Hid (qH S=dB (Bp.mul (uT S))):=rfl
 have HS:Hid (∀w v,oq w v 1 (fun _=>32) (fun _=>dg 256 S)->Calls Tryz.prog 139 #[v] w fun e w'=>e=.returned (.agg (arr .u8 64 (Ew S)))/\Below w.heap.size w w'):=fun w v h=>
  vQ v 1 _ _ 32 (dg 256 S) w h (uz (f:=dg 256 S) (n:=32)).1 (uz (f:=dg 256 S) (n:=32)).2 aN (fun i _=>aV aN _ _)
 have RQ:Hid (∀w,Calls Tryz.prog 198 #[.agg (arr .u8 32 (Ew S))] w fun e w'=>e=.returned (.agg (arr .u8 32 (dg 256 ((uT S:Nat):Int))))/\Below w.heap.size w w'):=fun w=>by
  rw[AO,show arr .u8 32 (Ew S)=arr .u8 32 (dg 256 (sm 256 (Ew S) 32)) from gP fun i hi=>(tJ (f:=Ew S) aN (fun i _=>fM 32 (dg 256 S) i) i hi).symm];exact zm _ w
 have HAL:=ak (Gg S);have RU:=ak GA;have ZM:=ak (fun w=>Bg w);obtain⟨F,hF⟩:∃F,F=Cm:=⟨_,rfl⟩
 rw[<-hF] at RU ZM;obtain⟨SB,xu⟩:∃SB,SB=Ew S:=⟨_,rfl⟩
 rw[<-xu] at HS RQ ZL;obtain⟨A,hA⟩:∃A,A=uT S:=⟨_,rfl⟩
 rw[<-hA] at RQ Lj HAL ⊢;obtain⟨U,hU⟩:∃U,U=qH S:=⟨_,rfl⟩
 rw[<-hU] at Lj ⊢;obtain⟨PF,hPF⟩:∃PF,PF=oV S:=⟨_,rfl⟩
 rw[<-hPF] at ZL ⊢;clear xu hA hF hU hPF
 go_enter Tryz.func143,Tryz.ntmps143
 go_upto_region 1 with(fail);refine aJ (fun w1=>aQ .u8 w1 w.heap.size 32 (dg 256 S)/\Below w.heap.size w w1) ⟨bU rfl rfl,(bT _ _).alloc (bB _) _⟩ ?_;rintro w1 ⟨h1,aA⟩;have hl1:=h1.lt;go_wp2_with fail;refine(HS.out _ _ (by simpa using new1 (T:=23) (h1.rd aN) (bT _ _))).mono ?_;rintro e w2 ⟨rfl,dP⟩;replace aA:=(aA.alloc aA.size _).trans (dP.mono (by simp;omega));clear dP h1;have fD:=aA.size;go_upto_region 2 with(refine aM rfl 47 _ _ rfl .u8 w2.heap.size 64 (fun _=>0) SB zy rfl rfl (bU rfl (by rfl)) ?_);refine aJ (fun w3=>aQ .u8 w3 w2.heap.size 64 SB/\Below w.heap.size w w3) ⟨(bU rfl (by rfl):aQ .u8 _ _ 64 (fun _=>0)).setRow _ _,aC (aA.alloc aA.size _) aA.size _⟩ ?_;rintro w3 ⟨h3,fP⟩;obtain⟨q,hq⟩:∃q,q=w2.heap.size:=⟨_,rfl⟩
 rw[<-hq] at h3 fD ⊢;have hql:=h3.lt;replace aA:=fP;have XD:Hid (∀i,i<32->w3.cell? ⟨q,0+i,none⟩=some (.int .u8 (SB i))):=fun i hi=>by rw[oD,h3.cell i aH]
 clear hq fP
 try simp only[Act.put,dK,dL,dM]
 refine bG (n:=22) aS aS aS rfl
  (gZ [(5,4)]) (eZ [(5,4)]) (fun _=>arr .u8 32 (fun _=>0)) (fun _=>(arr .u8 32 (dg 256 (A:Int)))) (fun _=>22) (fun _=>4)
  (fun ii vv _=>(match ii with | 0=>vv=.slice (some ⟨q,0,none⟩) 32 64 | 1=>vv=.pointer (some ⟨q,0,none⟩) | 2=>vv=.agg (arr .u8 32 (SB)) | 3=>vv=.agg (arr .u8 32 (dg 256 (A:Int))) | _=>True)) (fun _ _=>True) (fun _ _ _=>trivial) (fun _ _ _ _ _ _ _=>trivial) (fun _ _ _ _ h _=>h)
  (fJ rfl) (dU rfl) ?_ ?_ ?_ ?_
 ·refine cB ?_;refine⟨?_,?_,?_,?_,(fun h=>by cases h),(fun _ h=>by cases h),trivial⟩
  ·intro _ _ a w2 hB hF hd;exact aO <| aT (eY rfl (hF.same 3 rfl) (by simp only[Option.map_some,Option.map_none];exact jv (m:=32) FD Tryz.size5 aN)) rfl
  ·intro _ _ a w2 hB hF hd;exact aO <| aT (jc rfl (hd 0 _ rfl rfl rfl (aj rfl)) dY aN) rfl
  ·intro _ _ a w2 hB hF hd;exact aO <| aT (gL rfl (hd 1 _ rfl rfl rfl (aj rfl)) dY dh (fun i hi=>(hB.cell (p:=⟨q,0+i,none⟩) hql).trans (XD.out i hi))) rfl
  ·intro _ _ a w2 hB hF hd;refine aO <| aD _ _ _ rfl Tryz.call198 _ (args1 (hd 2 _ rfl rfl rfl (aj rfl))) aR ((RQ.out w2).mono ?_);rintro e w3 ⟨rfl,hb⟩;exact⟨_,rfl,rfl,hb⟩
 ·refine cB ?_;refine⟨(fun h=>by cases h),(fun h=>by cases h),(fun h=>by cases h),(fun h=>by cases h),?_,(fun h=>by cases h),trivial⟩
  ·exact fun _=>⟨rfl,rfl,fun a w2 K h=>aZ rfl rfl Tryz.zeroValue22 aR h⟩
 ·refine cB ?_;refine⟨(fun _ h=>by cases h),(fun _ h=>by cases h),(fun _ h=>by cases h),(fun _ h=>by cases h),(fun _ h=>by cases h),?_,trivial⟩
  ·intro p hp;obtain rfl:4=p:=iy hp;exact⟨rfl,rfl,⟨_,rfl⟩,aj rfl,fun a w2 b K hB hF hd hx hb h=>bJ rfl rfl dh hx (hd 3 _ rfl rfl rfl (aj rfl)) hb h⟩
 ·intro a w4 blk hB hF hS hv hfin dw;obtain⟨v4,IE,Lv⟩:=hv 4 _ rfl rfl;have ha:=aP rfl rfl hF [_,_,_,_,_,undef] rfl ⟨hS 0 _ rfl rfl rfl,hS 1 _ rfl rfl rfl,hS 2 _ rfl rfl rfl,hS 3 _ rfl rfl rfl,v4,trivial,trivial⟩;have f4:=hfin 5 _ 4 rfl rfl;simp only[puts,Act.put,dK,dL,dM] at ha;subst ha;have V4:aQ .u8 w4 (blk 4) 32 (dg 256 (A:Int)):=⟨_,f4⟩
  clear hS hv hfin dw hF v4 f4;replace h3:=h3.kept hB;replace aA:=aA.trans (hB.mono aA.size);obtain⟨x4,e4⟩:∃x,x=blk 4:=⟨_,rfl⟩
  rw[<-e4] at V4 ⊢;have h4:=V4;have hq4:=h3.lt;have HC4:Hid (∀i,i<32->w4.cell? ⟨q,32+i,none⟩=some (.int .u8 (PF i))):=fun i hi=>by rw[ZL.out];exact h3.cell (32+i) aH
  clear e4 hB V4 IE Lv hql XD;go_upto_region 3 with(fail)
  refine aX (n:=22) aS aS aS rfl
   (fun ii vv ww=>(match ii with | 0 | 5=>vv=.agg (arr .u8 32 (dg 256 (A:Int))) | 1=>vv=.slice (some ⟨q,32,none⟩) (64 - 32) (64 - 32) | 2=>vv=.pointer (some ⟨q,32,none⟩) | 3=>vv=.agg (arr .u8 32 (PF)) | 4=>vv=.agg (arr .i64 64 (F)) | 7=>vv=.agg (arr .u8 32 (dg 256 (dB (Bp.mul A)))) | 8=>vv=.agg (Oe (dg 256 (A:Int)) (PF) (dg 256 (dB (Bp.mul A)))) | _=>True)/\(ii=6->uG vv (Bp.mul A))/\(ii=9->xK ww vv (dg 256 (A:Int)) PF (dg 256 (dB (Bp.mul A))))/\(ii=10->xK ww vv (dg 256 (A:Int)) PF (dg 256 (dB (Bp.mul A)))))
   (fun w w'=>Below w.heap.size w w') (fun _ _ h=>h) (fun i v w w' h hE=>⟨h.1,fun e=>uG.keep (h.2.1 e) hE,fun e=>xK.below (h.2.2.1 e) hE,fun e=>xK.below (h.2.2.2 e) hE⟩) ?_ ?_
  ·refine cB ?_;refine⟨?_,?_,?_,?_,?_,?_,?_,?_,?_,?_,?_,trivial⟩
   ·intro a w2 hB hF hd;exact aO <| aT (aF rfl dY rfl dh (hF.same 4 rfl) (h4.below hB h4.lt)) ⟨rfl,aL,aL,aL⟩
   ·intro a w2 hB hF hd;exact aO <| aT (eY rfl (hF.same 3 rfl) (by simp only[Option.map_some,Option.map_none];exact oL (m:=32) FD Tryz.size5 aN)) ⟨rfl,aL,aL,aL⟩
   ·intro a w2 hB hF hd;exact aO <| aT (jc rfl ((hd 1 _ rfl (aj rfl)).1) dY aN) ⟨rfl,aL,aL,aL⟩
   ·intro a w2 hB hF hd;exact aO <| aT (gL rfl ((hd 2 _ rfl (aj rfl)).1) dY dh (fun i hi=>(hB.cell (p:=⟨q,32+i,none⟩) hq4).trans (HC4.out i hi))) ⟨rfl,aL,aL,aL⟩
   ·intro a w2 hB hF hd;refine aO <| aD _ _ _ rfl Tryz.call157 _ mZ aR ((ZM.out w2).mono ?_);rintro e w3 ⟨rfl,hb⟩;exact⟨_,rfl,⟨rfl,aL,aL,aL⟩,hb⟩
   ·intro a w2 hB hF hd;exact aO <| aT (aF rfl dY rfl dh (hF.same 4 rfl) (h4.below hB h4.lt)) ⟨rfl,aL,aL,aL⟩
   ·intro a w2 hB hF hd;refine aO <| aD _ _ _ rfl Tryz.call158 _ (args2 ((hd 4 _ rfl (aj rfl)).1) ((hd 5 _ rfl (aj rfl)).1)) aR ((EC A HAL.out w2 ⟨_,rfl,RU.out⟩).mono ?_);rintro e w3 ⟨u,rfl,hr,hb⟩;exact⟨u,rfl,⟨trivial,fun _=>hr,aL,aL⟩,hb⟩
   ·intro a w2 hB hF hd;refine aO <| aD _ _ _ rfl Tryz.call161 _ (args1 rfl) aR ((zX w2 ((hd 6 _ rfl (aj rfl)).2.1 rfl)).mono ?_);rintro e w3 ⟨rfl,hb⟩;exact⟨_,rfl,⟨rfl,aL,aL,aL⟩,hb⟩
   ·intro a w2 hB hF hd;exact aO <| aT (gN rfl (by simp only[zw,List.map_cons,List.map_nil,show a.eval (Operand.tmp 12)=.agg (arr .u8 32 (dg 256 (A:Int))) from((hd 0 _ rfl (aj rfl)).1),show a.eval (Operand.tmp 15)=.agg (arr .u8 32 (PF)) from((hd 3 _ rfl (aj rfl)).1),show a.eval (Operand.tmp 19)=.agg (arr .u8 32 (dg 256 (dB (Bp.mul A)))) from((hd 7 _ rfl (aj rfl)).1)];exact WE _ _ _ _)) ⟨rfl,aL,aL,aL⟩
   ·intro a w2 hB hF hd;refine aO <| VE rfl ((hd 8 _ rfl (aj rfl)).1) (by unfold Oe;simp) aR ?_;exact⟨trivial,aL,fun _=>(⟨_,rfl,fB.newAt rfl⟩),aL⟩
   ·intro a w2 hB hF hd;exact aO <| aB _ (.inr rfl) aR ⟨trivial,aL,aL,fun _=>((hd 9 _ rfl (aj rfl)).2.2.1 rfl)⟩
  ·intro a w5 hB hF hS;obtain⟨x18,acD⟩:∃x,x=a.tmps.getD 18 undef:=⟨_,rfl⟩
   have P18:uG x18 (Bp.mul A):=by rw[acD];exact(hS 6 _ rfl).2.1 rfl
   obtain⟨x21,acC⟩:∃x,x=a.tmps.getD 21 undef:=⟨_,rfl⟩
   have P21:xK w5 x21 (dg 256 (A:Int)) PF (dg 256 (dB (Bp.mul A))):=by rw[acC];exact(hS 9 _ rfl).2.2.1 rfl
   obtain⟨x2,hx2⟩:∃x,x=a.tmps.getD 2 undef:=⟨_,rfl⟩
   have P2:xK w5 x2 (dg 256 (A:Int)) PF (dg 256 (dB (Bp.mul A))):=by rw[hx2];exact(hS 10 _ rfl).2.2.2 rfl
   have ha:=aP rfl rfl hF [_,_,_,_,_,_,x18,_,_,x21,x2] rfl ⟨(hS 0 _ rfl).1,(hS 1 _ rfl).1,(hS 2 _ rfl).1,(hS 3 _ rfl).1,(hS 4 _ rfl).1,(hS 5 _ rfl).1,acD.symm,(hS 7 _ rfl).1,(hS 8 _ rfl).1,acC.symm,hx2.symm,trivial⟩;simp only[puts,Act.put,dK,dL,dM] at ha;subst ha;clear acD acC hx2;clear hS hF;have iX:=aA.trans (hB.mono aA.size);rw[<-Lj.out] at P2;go_wp2;go_ret;exact⟨_,rfl,P2,iX⟩
theorem AB {v:Value} {A P U:Nat->Int} (w:World) (h:xK w v A P U):Calls Tryz.prog 206 #[v] w fun e w'=>e=.returned (.bool true)/\Below w.heap.size w w':=by
 obtain⟨b,rfl,h⟩:=h;have e96:=h.cell 96 (abA A P U);clear h
 go_enter Tryz.func206,Tryz.ntmps206
 go_wp2;go_ret;exact⟨rfl,bT _ _⟩
theorem Dm {v:Value} {A P U:Nat->Int} (w:World) (h:xK w v A P U):Calls Tryz.prog 144 #[v] w fun e w'=>e=.returned (.tuple #[.agg (arr .u8 32 U),.int .i64 0])/\Below w.heap.size w w':=by
 have HM:=ak (fun w h=>AB (v:=v) (A:=A) (P:=P) (U:=U) w h);obtain⟨b,rfl,h⟩:=h
 go_enter Tryz.func144,Tryz.ntmps144
 go_upto_region 1 with(fail);refine aJ (fun w1=>aQ .u8 w1 w.heap.size 32 (fun _=>0)/\Below w.heap.size w w1) ⟨bU rfl (by rfl),(bT _ _).alloc (bB _) _⟩ ?_;rintro w1 ⟨hZ,aA⟩;replace h:=h.kept aA;go_wp2_with fail;refine(HM.out _ ⟨b,rfl,h⟩).mono ?_;rintro e w2 ⟨rfl,hb⟩;replace h:=h.kept hb;replace hZ:=hZ.kept hb;replace aA:=aA.trans (hb.mono aA.size);clear hb
 go_wp2_with (first
  | (refine EP rfl 22 _ rfl .u8 b 64 32 U 5 dY dh rfl (fun i hi=>h.cell (64+i) (ZY A P U hi)) ?_)
  | (refine aM rfl 22 _ _ rfl .u8 w.heap.size 32 (fun _=>0) U dh rfl rfl hZ ?_))
 exact bodyPost_ret (gK rfl _ _ .u8 w.heap.size 32 _ 5 rfl (hZ.setRow _ _) dY dh) rfl ⟨rfl,aC aA (bB _) _⟩
noncomputable def rP (P f:Nat->Int) (n:Nat):Nat:=yA (32+n) (fO 32 P f)
noncomputable def vX (P f:Nat->Int) (n:Nat):Int:=dB (Bp.mul (rP P f n))
noncomputable def pQ (P U f:Nat->Int) (n:Nat):Nat:=yA (32+(32+n)) (fO 32 (dg 256 (vX P f n)) (fO 32 U f))
noncomputable def vW (A:Nat) (P U f:Nat->Int) (n:Nat):Nat:=(pQ P U f n * A % jo+rP P f n) % jo
noncomputable def PZ (A:Nat) (P U f:Nat->Int) (n:Nat):Nat->Int:=fO 32 (dg 256 (vX P f n)) (dg 256 ((vW A P U f n:Nat):Int))
theorem Ir:Q=(jo:Int):=by decide
theorem Od (A:Nat) (P U f:Nat->Int) (n:Nat):vW A P U f n<jo:=Nat.mod_lt _ aN
theorem Jt {v:Value} {A:Nat} {P U:Nat->Int} (t:Value) (n:Nat) (f:Nat->Int) (w:World) (h:xK w v (dg 256 (A:Int)) P U) (ht:Rd .u8 w t n f) (hA:A<2 ^ 256) (hn:n<=900000) (hP:∀i,i<32->0<=P i/\P i<256) (hU:∀i,i<32->0<=U i/\U i<256) (hf:∀i,i<n->0<=f i/\f i<256):
  Calls Tryz.prog 145 #[v,t] w fun e w'=>e=.returned (.tuple #[.agg (arr .u8 64 (PZ A P U f n)),.int .i64 0])/\Below w.heap.size w w':=by
 have HM:=ak (fun w h=>AB (v:=v) (A:=dg 256 (A:Int)) (P:=P) (U:=U) w h);have NW:Hid (∀w v,oq w v 2 (iV 1 (fun _=>32) (fun _=>n)) (jP 1 (fun _=>P) (fun _=>f))->Calls Tryz.prog 156 #[v] w fun e w'=>e=.returned (.agg (arr .u8 32 (dg 256 ((rP P f n:Nat):Int))))/\Below w.heap.size w w'):=fun w v h=>abB v 32 n P f w h aH hP hf;have HN3:Hid (∀w v,oq w v 3 (iV 1 (fun _=>32) (iV 1 (fun _=>32) (fun _=>n))) (jP 1 (fun _=>dg 256 (vX P f n)) (jP 1 (fun _=>U) (fun _=>f)))->Calls Tryz.prog 156 #[v] w fun e w'=>e=.returned (.agg (arr .u8 32 (dg 256 ((pQ P U f n:Nat):Int))))/\Below w.heap.size w w'):=fun w v h=>Tg v 32 32 n _ U f w h aH (fun i _=>aV aN _ _) hU hf;have hlR:rP P f n<jo:=wR _ _;have hlK:pQ P U f n<jo:=wR _ _;have ho:jo<2 ^ 256:=by decide
 have HMA:Hid (∀w,Calls Tryz.prog 207 #[.agg (arr .u8 32 (dg 256 ((pQ P U f n:Nat):Int))),.agg (arr .u8 32 (dg 256 (A:Int))),.agg (arr .u8 32 (dg 256 ((rP P f n:Nat):Int)))] w fun e w'=>e=.returned (.agg (arr .u8 32 (dg 256 ((vW A P U f n:Nat):Int))))/\Below w.heap.size w w'):=fun w=>by
  have h:=NR ((pQ P U f n:Nat):Int) (A:Int) ((rP P f n:Nat):Int) w ⟨by omega,by omega⟩ ⟨by omega,by omega⟩ ⟨by omega,by omega⟩;unfold vW;rw[Ir] at h
  rwa [Int.natCast_emod,Int.natCast_add,Int.natCast_emod,Int.natCast_mul]
 have HRL:Hid (rP P f n<2 ^ 256):=Nat.lt_trans hlR ho;have HSF:Hid (vX P f n=dB (Bp.mul (rP P f n))):=rfl;have uq:Hid (PZ A P U f n=fO 32 (dg 256 (vX P f n)) (dg 256 ((vW A P U f n:Nat):Int))):=rfl;obtain⟨R,hR⟩:∃R,R=rP P f n:=⟨_,rfl⟩
 rw[<-hR] at NW HMA HRL HSF;obtain⟨FI,hFI⟩:∃FI,FI=vX P f n:=⟨_,rfl⟩
 rw[<-hFI] at HN3 HSF uq;obtain⟨K,hK⟩:∃K,K=pQ P U f n:=⟨_,rfl⟩
 rw[<-hK] at HN3 HMA;obtain⟨S,hS⟩:∃S,S=vW A P U f n:=⟨_,rfl⟩
 rw[<-hS] at HMA uq;rw[uq.out];have RU:=ak GA;have ZM:=ak (fun w=>Bg w);obtain⟨F,hF⟩:∃F,F=Cm:=⟨_,rfl⟩
 rw[<-hF] at RU ZM;have HT:=ak ht;obtain⟨tl,tn,tc,et⟩:=ht.isSlice;subst et;obtain⟨b,rfl,h⟩:=h;clear hR hFI hK hS hF hlR hlK ho hn hA hP hU hf ht uq
 go_enter Tryz.func145,Tryz.ntmps145
 go_upto_region 1 with(fail);refine aJ (fun w1=>aQ .u8 w1 w.heap.size 64 (fun _=>0)/\Below w.heap.size w w1) ⟨bU rfl (by rfl),(bT _ _).alloc (bB _) _⟩ ?_;rintro w1 ⟨hZ,aA⟩;replace h:=h.kept aA;replace HT:=ak (HT.out.below aA);go_wp2_with fail;refine(HM.out _ ⟨b,rfl,h⟩).mono ?_;rintro e w2 ⟨rfl,hb⟩;replace h:=h.kept hb;replace HT:=ak (HT.out.below hb);replace hZ:=hZ.kept hb;replace aA:=aA.trans (hb.mono aA.size);clear hb;go_wp2_with fail;refine(NW.out _ _ (by simpa using Yv (T:=23) h.aeW.2.1 HT.out (bT _ _))).mono ?_;rintro e w3 ⟨rfl,hb⟩;have fP:Below w2.heap.size w2 w3:=((bT w2.heap.size w2).alloc (bB _) _).trans (hb.mono aR);replace h:=h.kept fP;replace HT:=ak (HT.out.below fP);replace hZ:=hZ.kept fP;replace aA:=aA.trans (fP.mono aA.size);have hz3:=hZ.lt;clear hb fP;go_upto_region 4 with(refine aM rfl 22 _ _ rfl .u8 w3.heap.size 32 (fun _=>0) (dg 256 (R:Int)) dh rfl rfl (bU rfl (by rfl)) ?_);refine aJ (fun w4=>aQ .u8 w4 w3.heap.size 32 (dg 256 (R:Int))/\Below w3.heap.size w3 w4) ⟨(bU rfl (by rfl):aQ .u8 _ _ 32 (fun _=>0)).setRow _ _,aC ((bT _ _).alloc (bB _) _) (bB _) _⟩ ?_;rintro w4 ⟨h6,hb⟩;replace h:=h.kept hb;replace HT:=ak (HT.out.below hb);replace hZ:=hZ.kept hb;replace aA:=aA.trans (hb.mono aA.size);obtain⟨x6,e6⟩:∃x,x=w3.heap.size:=⟨_,rfl⟩
 rw[<-e6] at h6 hz3 ⊢;have hl6:=h6.lt;clear e6 hb
 try simp only[Act.put,dK,dL,dM]
 refine bG (n:=48) aS aS aS rfl
  (gZ [(5,4)]) (eZ [(5,4)]) (fun _=>arr .u8 32 (fun _=>0)) (fun _=>(arr .u8 32 (dg 256 (dB (Bp.mul R))))) (fun _=>22) (fun _=>7)
  (fun ii vv ww=>(match ii with | 0=>vv=.agg (arr .i64 64 (F)) | 1=>vv=.agg (arr .u8 32 (dg 256 (R:Int))) | 3=>vv=.agg (arr .u8 32 (dg 256 (dB (Bp.mul R)))) | _=>True)/\(ii=2->uG vv (Bp.mul R))) (fun _ _=>True) (fun _ _ _=>trivial) (fun _ _ _ _ _ _ _=>trivial) (fun i v w w' h hE=>⟨h.1,fun e=>uG.keep (h.2 e) hE⟩)
  (fJ rfl) (dU rfl) ?_ ?_ ?_ ?_
 ·refine cB ?_;refine⟨?_,?_,?_,?_,(fun h=>by cases h),(fun _ h=>by cases h),trivial⟩
  ·intro _ _ a w2 hB hF hd;refine aO <| aD _ _ _ rfl Tryz.call157 _ mZ aR ((ZM.out w2).mono ?_);rintro e w3 ⟨rfl,hb⟩;exact⟨_,rfl,⟨rfl,aL⟩,hb⟩
  ·intro _ _ a w2 hB hF hd;exact aO <| aT (aF rfl dY rfl dh (hF.same 6 rfl) (h6.below hB h6.lt)) ⟨rfl,aL⟩
  ·intro _ _ a w2 hB hF hd;refine aO <| aD _ _ _ rfl Tryz.call158 _ (args2 ((hd 0 _ rfl rfl rfl (aj rfl)).1) ((hd 1 _ rfl rfl rfl (aj rfl)).1)) aR ((EC R HRL.out w2 ⟨_,rfl,RU.out⟩).mono ?_);rintro e w3 ⟨u,rfl,hr,hb⟩;exact⟨u,rfl,⟨trivial,fun _=>hr⟩,hb⟩
  ·intro _ _ a w2 hB hF hd;refine aO <| aD _ _ _ rfl Tryz.call161 _ (args1 rfl) aR ((zX w2 ((hd 2 _ rfl rfl rfl (aj rfl)).2 rfl)).mono ?_);rintro e w3 ⟨rfl,hb⟩;exact⟨_,rfl,⟨rfl,aL⟩,hb⟩
 ·refine cB ?_;refine⟨(fun h=>by cases h),(fun h=>by cases h),(fun h=>by cases h),(fun h=>by cases h),?_,(fun h=>by cases h),trivial⟩
  ·exact fun _=>⟨rfl,rfl,fun a w2 K h=>aZ rfl rfl Tryz.zeroValue22 aR h⟩
 ·refine cB ?_;refine⟨(fun _ h=>by cases h),(fun _ h=>by cases h),(fun _ h=>by cases h),(fun _ h=>by cases h),(fun _ h=>by cases h),?_,trivial⟩
  ·intro p hp;obtain rfl:4=p:=iy hp;exact⟨rfl,rfl,⟨_,rfl⟩,aj rfl,fun a w2 b K hB hF hd hx hb h=>bJ rfl rfl dh hx ((hd 3 _ rfl rfl rfl (aj rfl)).1) hb h⟩
 ·intro a w5 blk hB hF hS hv hfin dw;obtain⟨v4,IE,Lv⟩:=hv 4 _ rfl rfl;obtain⟨x24,hx24⟩:∃x,x=a.tmps.getD 24 undef:=⟨_,rfl⟩
  have ha:=aP rfl rfl hF [_,_,x24,_,_,undef] rfl ⟨(hS 0 _ rfl rfl rfl).1,(hS 1 _ rfl rfl rfl).1,hx24.symm,(hS 3 _ rfl rfl rfl).1,v4,trivial,trivial⟩;have f4:=hfin 5 _ 4 rfl rfl;simp only[puts,Act.put,dK,dL,dM] at ha;subst ha;clear hx24;have V4:aQ .u8 w5 (blk 4) 32 (dg 256 (dB (Bp.mul R))):=⟨_,f4⟩
  clear hS hv hfin dw hF v4 f4;replace h:=h.kept hB;replace HT:=ak (HT.out.below hB);replace hZ:=hZ.kept hB;replace h6:=h6.kept hB;replace aA:=aA.trans (hB.mono aA.size);obtain⟨x7,e7⟩:∃x,x=blk 4:=⟨_,rfl⟩
  rw[<-e7] at V4 IE ⊢;rw[<-HSF.out] at V4;have h7:=V4;have l7:x6<x7:=by omega
  have hl7:=h7.lt;clear e7 hB V4 IE Lv hl6;go_upto_region 5 with(fail)
  refine bG (n:=48) aS aS aS rfl
   (gZ [(9,8)]) (eZ [(9,8)]) (fun _=>arr .u8 32 (fun _=>0)) (fun _=>(arr .u8 32 (dg 256 (K:Int)))) (fun _=>22) (fun _=>8)
   (fun ii vv ww=>(match ii with | 0=>vv=.slice (some ⟨x7,0,none⟩) 32 32 | 1 | 2=>vv=.pointer (some ⟨b,0,none⟩) | 3=>vv=.pointer (some ⟨b,64,none⟩) | 4=>vv=.slice (some ⟨b,64,none⟩) 32 32 | 5=>vv=.slice tl tn tc | 7=>vv=.agg (arr .u8 32 (dg 256 (K:Int))) | _=>True)/\(ii=6->xO ww vv 23 3 [.slice (some ⟨x7,0,none⟩) 32 32,.slice (some ⟨b,64,none⟩) 32 32,.slice tl tn tc].toArray)) (tQ [22]) (fun _ _ h=>tQ.below h) (fun w b cs p _ _ hz=>tQ.row hz rfl) (fun i v w w' h hE=>⟨h.1,fun e=>xO.aao rfl (h.2 e) hE⟩)
   (fJ rfl) (dU rfl) ?_ ?_ ?_ ?_
  ·refine cB ?_;refine⟨?_,?_,?_,?_,?_,?_,?_,?_,(fun h=>by cases h),(fun _ h=>by cases h),trivial⟩
   ·intro _ _ a w2 hB hF hd;exact aO <| aT (fC rfl (hF.same 7 rfl) dY aS) ⟨rfl,aL⟩
   ·intro _ _ a w2 hB hF hd;exact aO <| aB _ (.inl rfl) aR ⟨(hF.same 0 rfl),aL⟩
   ·intro _ _ a w2 hB hF hd;exact aO <| aT (nC rfl ((hd 1 _ rfl rfl rfl (aj rfl)).1)) ⟨rfl,aL⟩
   ·intro _ _ a w2 hB hF hd;refine aO <| aT (bP (m:=31) (k:=64) rfl ((hd 2 _ rfl rfl rfl (aj rfl)).1) aS) ?_;exact⟨rfl,aL⟩
   ·intro _ _ a w2 hB hF hd;exact aO <| aT (Dp rfl ((hd 3 _ rfl rfl rfl (aj rfl)).1) dY aS) ⟨rfl,aL⟩
   ·intro _ _ a w2 hB hF hd;exact aO <| aB _ (.inl rfl) aR ⟨(hF.same 1 rfl),aL⟩
   ·intro _ _ a w2 hB hF hd;exact aO <| kI 55 23 3 _ [.slice (some ⟨x7,0,none⟩) 32 32,.slice (some ⟨b,64,none⟩) 32 32,.slice tl tn tc] rfl Tryz.underlying55 aS aS rfl aN aN (by intro v hv;simp only[List.mem_cons,List.not_mem_nil,or_false] at hv;rcases hv with rfl | rfl | rfl<;> rfl) (by simp only[zw,List.map_cons,List.map_nil,show a.eval (Operand.tmp 26)=.slice (some ⟨x7,0,none⟩) 32 32 from((hd 0 _ rfl rfl rfl (aj rfl)).1),show a.eval (Operand.tmp 30)=.slice (some ⟨b,64,none⟩) 32 32 from((hd 4 _ rfl rfl rfl (aj rfl)).1),show a.eval (Operand.tmp 31)=.slice tl tn tc from((hd 5 _ rfl rfl rfl (aj rfl)).1)];rfl) aR ⟨trivial,fun _=>((⟨_,rfl,heap_alloc_new _ _⟩))⟩
   ·intro _ _ a w2 hB hF hd;refine aO <| aD _ _ _ rfl Tryz.call156 _ (args1 rfl) aR ((HN3.out w2 _ (((hd 6 _ rfl rfl rfl (aj rfl)).2 rfl).aeO ((h7.kept hB).rd aN) (h.aeW.2.2.below hB) (HT.out.below hB))).mono ?_);rintro e w3 ⟨rfl,hb⟩;exact⟨_,rfl,⟨rfl,aL⟩,hb⟩
  ·refine cB ?_;refine⟨(fun h=>by cases h),(fun h=>by cases h),(fun h=>by cases h),(fun h=>by cases h),(fun h=>by cases h),(fun h=>by cases h),(fun h=>by cases h),(fun h=>by cases h),?_,(fun h=>by cases h),trivial⟩
   ·exact fun _=>⟨rfl,rfl,fun a w2 K h=>aZ rfl rfl Tryz.zeroValue22 aR h⟩
  ·refine cB ?_;refine⟨(fun _ h=>by cases h),(fun _ h=>by cases h),(fun _ h=>by cases h),(fun _ h=>by cases h),(fun _ h=>by cases h),(fun _ h=>by cases h),(fun _ h=>by cases h),(fun _ h=>by cases h),(fun _ h=>by cases h),?_,trivial⟩
   ·intro p hp;obtain rfl:8=p:=iy hp;exact⟨rfl,rfl,⟨_,rfl⟩,aj rfl,fun a w2 b K hB hF hd hx hb h=>bJ rfl rfl dh hx ((hd 7 _ rfl rfl rfl (aj rfl)).1) hb h⟩
  ·intro a w6 blk hB hF hS hv hfin dw;obtain⟨v8,v8l,v8u⟩:=hv 8 _ rfl rfl;obtain⟨x32,hx32⟩:∃x,x=a.tmps.getD 32 undef:=⟨_,rfl⟩
   have ha:=aP rfl rfl hF [_,_,_,_,_,_,x32,_,_,undef] rfl ⟨(hS 0 _ rfl rfl rfl).1,(hS 1 _ rfl rfl rfl).1,(hS 2 _ rfl rfl rfl).1,(hS 3 _ rfl rfl rfl).1,(hS 4 _ rfl rfl rfl).1,(hS 5 _ rfl rfl rfl).1,hx32.symm,(hS 7 _ rfl rfl rfl).1,v8,trivial,trivial⟩;have f8:=hfin 9 _ 8 rfl rfl;simp only[puts,Act.put,dK,dL,dM] at ha;subst ha;clear hx32;have V8:aQ .u8 w6 (blk 8) 32 (dg 256 (K:Int)):=⟨_,f8⟩
   clear hS hv hfin dw hF v8 f8;replace h:=h.kept hB;replace hZ:=hZ.kept hB;replace h6:=h6.kept hB;replace h7:=h7.kept hB;replace aA:=aA.trans (hB.mono aA.size);obtain⟨x8,e8⟩:∃x,x=blk 8:=⟨_,rfl⟩
   rw[<-e8] at V8 v8l ⊢;have h8:=V8;have hl8:=h8.lt;have l8:x7<x8:=by omega
   have ha:∀i,i<32->w6.cell? ⟨b,0+i,none⟩=some (.int .u8 (dg 256 (A:Int) i)):=fun i hi=>by rw[oD];exact h.cell i (aac _ _ _ hi)
   have hbl:=h.lt;have HAC:=ak ha;clear e8 hB V8 v8l v8u hl7 ha HT h;go_upto_region 6 with(fail)
   refine bG (n:=48) aS aS aS rfl
    (gZ [(8,7)]) (eZ [(8,7)]) (fun _=>arr .u8 32 (fun _=>0)) (fun _=>(arr .u8 32 (dg 256 (S:Int)))) (fun _=>22) (fun _=>9)
    (fun ii vv _=>(match ii with | 0=>vv=.agg (arr .u8 32 (dg 256 (K:Int))) | 1 | 2 | 3=>vv=.pointer (some ⟨b,0,none⟩) | 4=>vv=.agg (arr .u8 32 (dg 256 (A:Int))) | 5=>vv=.agg (arr .u8 32 (dg 256 (R:Int))) | 6=>vv=.agg (arr .u8 32 (dg 256 (S:Int))) | _=>True)) (fun _ _=>True) (fun _ _ _=>trivial) (fun _ _ _ _ _ _ _=>trivial) (fun _ _ _ _ h _=>h)
    (fJ rfl) (dU rfl) ?_ ?_ ?_ ?_
   ·refine cB ?_;refine⟨?_,?_,?_,?_,?_,?_,?_,(fun h=>by cases h),(fun _ h=>by cases h),trivial⟩
    ·intro _ _ a w2 hB hF hd;exact aO <| aT (aF rfl dY rfl dh (hF.same 8 rfl) (h8.below hB h8.lt)) rfl
    ·intro _ _ a w2 hB hF hd;exact aO <| aB _ (.inl rfl) aR (hF.same 0 rfl)
    ·intro _ _ a w2 hB hF hd;exact aO <| aT (nC rfl (hd 1 _ rfl rfl rfl (aj rfl))) rfl
    ·intro _ _ a w2 hB hF hd;refine aO <| aT (bP (m:=31) (k:=0) rfl (hd 2 _ rfl rfl rfl (aj rfl)) aS) ?_;exact rfl
    ·intro _ _ a w2 hB hF hd;exact aO <| aT (gL rfl (hd 3 _ rfl rfl rfl (aj rfl)) dY dh (fun i hi=>(hB.cell (p:=⟨b,0+i,none⟩) hbl).trans (HAC.out i hi))) rfl
    ·intro _ _ a w2 hB hF hd;exact aO <| aT (aF rfl dY rfl dh (hF.same 6 rfl) (h6.below hB h6.lt)) rfl
    ·intro _ _ a w2 hB hF hd;refine aO <| aD _ _ _ rfl Tryz.call207 _ (Cn (hd 0 _ rfl rfl rfl (aj rfl)) (hd 4 _ rfl rfl rfl (aj rfl)) (hd 5 _ rfl rfl rfl (aj rfl))) aR ((HMA.out w2).mono ?_);rintro e w3 ⟨rfl,hb⟩;exact⟨_,rfl,rfl,hb⟩
   ·refine cB ?_;refine⟨(fun h=>by cases h),(fun h=>by cases h),(fun h=>by cases h),(fun h=>by cases h),(fun h=>by cases h),(fun h=>by cases h),(fun h=>by cases h),?_,(fun h=>by cases h),trivial⟩
    ·exact fun _=>⟨rfl,rfl,fun a w2 K h=>aZ rfl rfl Tryz.zeroValue22 aR h⟩
   ·refine cB ?_;refine⟨(fun _ h=>by cases h),(fun _ h=>by cases h),(fun _ h=>by cases h),(fun _ h=>by cases h),(fun _ h=>by cases h),(fun _ h=>by cases h),(fun _ h=>by cases h),(fun _ h=>by cases h),?_,trivial⟩
    ·intro p hp;obtain rfl:7=p:=iy hp;exact⟨rfl,rfl,⟨_,rfl⟩,aj rfl,fun a w2 b K hB hF hd hx hb h=>bJ rfl rfl dh hx (hd 6 _ rfl rfl rfl (aj rfl)) hb h⟩
   ·intro a w7 blk hB hF hS hv hfin dw;obtain⟨v7,Dc,Sz⟩:=hv 7 _ rfl rfl;have ha:=aP rfl rfl hF [_,_,_,_,_,_,_,_,undef] rfl ⟨hS 0 _ rfl rfl rfl,hS 1 _ rfl rfl rfl,hS 2 _ rfl rfl rfl,hS 3 _ rfl rfl rfl,hS 4 _ rfl rfl rfl,hS 5 _ rfl rfl rfl,hS 6 _ rfl rfl rfl,v7,trivial,trivial⟩;have f7:=hfin 8 _ 7 rfl rfl;simp only[puts,Act.put,dK,dL,dM] at ha;subst ha;have V7:aQ .u8 w7 (blk 7) 32 (dg 256 (S:Int)):=⟨_,f7⟩
    clear hS hv hfin dw hF v7 f7;replace hZ:=hZ.kept hB;replace h7:=h7.kept hB;replace aA:=aA.trans (hB.mono aA.size);obtain⟨x9,e9⟩:∃x,x=blk 7:=⟨_,rfl⟩
    rw[<-e9] at V7 Dc ⊢;have h9:=V7;have l9:x7<x9:=by omega
    have hl9:=h9.lt;clear e9 hB V7 Dc Sz h6 h8 HAC hbl l8 hl8;go_upto_region 8 with(fail);refine aJ (fun w8=>aQ .u8 w8 w7.heap.size 64 (fun _=>0)/\Below w7.heap.size w7 w8) ⟨bU rfl (by rfl),(bT _ _).alloc (bB _) _⟩ ?_;rintro w8 ⟨h10,hb⟩;replace hZ:=hZ.kept hb;replace h7:=h7.kept hb;replace h9:=h9.kept hb;replace aA:=aA.trans (hb.mono aA.size);obtain⟨x10,e10⟩:∃x,x=w7.heap.size:=⟨_,rfl⟩
    rw[<-e10] at h10 hl9 ⊢;clear e10 hb
    refine fT (n:=48) 2 rfl aN aS aS aS aS rfl
     (fun ii vv _=>(match ii with | 0=>vv=.slice (some ⟨x10,0,none⟩) 32 64 | 1=>vv=.slice (some ⟨x7,0,none⟩) 32 32 | _=>True))
     (fun w w'=>Below w.heap.size w w') (fun _ _ h=>h) (fun _ _ _ _ h _=>h) rfl ?_ ?_
    ·refine cB ?_;refine⟨?_,?_,(fun h=>absurd rfl h),trivial⟩
     ·intro _ a w2 hB hF hd;exact aO <| aT (eY rfl (hF.same 10 rfl) (by simp only[Option.map_some,Option.map_none];exact jv (m:=32) FD Tryz.size5 aN)) rfl
     ·intro _ a w2 hB hF hd;exact aO <| aT (fC rfl (hF.same 7 rfl) dY aS) rfl
    ·intro a w9 hB hF hS;obtain⟨x43,afh⟩:∃x,x=a.tmps.getD 43 undef:=⟨_,rfl⟩
     have ha:=aP rfl rfl hF [_,_,x43] rfl ⟨hS 0 _ rfl aN,hS 1 _ rfl aN,afh.symm,trivial⟩;simp only[puts,Act.put,dK,dL,dM] at ha;subst ha;clear afh;clear hS hF;replace hZ:=hZ.kept hB;replace h7:=h7.kept hB;replace h9:=h9.kept hB;replace h10:=h10.kept hB;replace aA:=aA.trans (hB.mono aA.size);clear hB;refine kE _ _ 23 23 rfl (e:=5) (k:=.u8) x10 0 32 64 64 (fun _=>0) lK Tryz.size5 rfl h10 _ 32 _ (h7.rd aN) rfl aN aN ?_;have q10:=aA.size;have e10:w.heap.size<=x10:=by omega
     have gy:=hZ.aG x10 aH (arr .u8 64 (laid (fun _=>0) 0 32 (dg 256 FI)));have h92:=h9.aG x10 aH (arr .u8 64 (laid (fun _=>0) 0 32 (dg 256 FI)));have iK:=h10.setRow 64 (laid (fun _=>0) 0 32 (dg 256 FI));have dP:=aC aA e10 (arr .u8 64 (laid (fun _=>0) 0 32 (dg 256 FI)));obtain⟨wa,hwa⟩:∃wa,wa=w9.setRow x10 (arr .u8 64 (laid (fun _=>0) 0 32 (dg 256 FI))):=⟨_,rfl⟩
     rw[<-hwa] at gy h92 iK dP ⊢;clear hwa hZ h7 h9 h10 aA q10;go_upto_region 9 with(fail)
     try simp only[List.getElem_toArray,List.getElem_cons_succ,List.getElem_cons_zero,Act.put]
     refine fT (n:=48) 2 rfl aN aS aS aS aS rfl
      (fun ii vv _=>(match ii with | 0=>vv=.slice (some ⟨x10,32,none⟩) (64 - 32) (64 - 32) | 1=>vv=.slice (some ⟨x9,0,none⟩) 32 32 | _=>True))
      (fun w w'=>Below w.heap.size w w') (fun _ _ h=>h) (fun _ _ _ _ h _=>h) rfl ?_ ?_
     ·refine cB ?_;refine⟨?_,?_,(fun h=>absurd rfl h),trivial⟩
      ·intro _ a w2 hB hF hd;exact aO <| aT (eY rfl (hF.same 10 rfl) (by simp only[Option.map_some,Option.map_none];exact oL (m:=32) FD Tryz.size5 aN)) rfl
      ·intro _ a w2 hB hF hd;exact aO <| aT (fC rfl (hF.same 9 rfl) dY aS) rfl
     ·intro a wb hB hF hS;obtain⟨x46,Kr⟩:∃x,x=a.tmps.getD 46 undef:=⟨_,rfl⟩
      have ha:=aP rfl rfl hF [_,_,x46] rfl ⟨hS 0 _ rfl aN,hS 1 _ rfl aN,Kr.symm,trivial⟩;simp only[puts,Act.put,dK,dL,dM] at ha;subst ha;clear Kr;clear hS hF;replace gy:=gy.kept hB;replace h92:=h92.kept hB;replace iK:=iK.kept hB;replace dP:=dP.trans (hB.mono dP.size);clear hB;refine kE _ _ 23 23 rfl (e:=5) (k:=.u8) x10 32 (64 - 32) (64 - 32) 64 (laid (fun _=>0) 0 32 (dg 256 FI)) lK Tryz.size5 rfl iK _ 32 _ (h92.rd aN) rfl aN aN ?_;have jy:=gy.aG x10 aH (arr .u8 64 (laid (laid (fun _=>0) 0 32 (dg 256 FI)) 32 32 (dg 256 (S:Int))));have hA3:=(iK.setRow 64 (laid (laid (fun _=>0) 0 32 (dg 256 FI)) 32 32 (dg 256 (S:Int)))).congr Uz;have fP:=aC dP e10 (arr .u8 64 (laid (laid (fun _=>0) 0 32 (dg 256 FI)) 32 32 (dg 256 (S:Int))));obtain⟨wc,hwc⟩:∃wc,wc=wb.setRow x10 (arr .u8 64 (laid (laid (fun _=>0) 0 32 (dg 256 FI)) 32 32 (dg 256 (S:Int)))):=⟨_,rfl⟩
      rw[<-hwc] at jy hA3 fP ⊢;clear hwc gy h92 iK dP;go_upto_region 10 with(fail)
      try simp only[List.getElem_toArray,List.getElem_cons_succ,List.getElem_cons_zero,Act.put]
      go_wp2_with (first
       | (refine bq rfl 47 _ rfl .u8 x10 64 (fO 32 (dg 256 FI) (dg 256 (S:Int))) 5 FD zy rfl hA3 ?_)
       | (refine aM rfl 47 _ _ rfl .u8 w.heap.size 64 (fun _=>0) (fO 32 (dg 256 FI) (dg 256 (S:Int))) zy rfl rfl jy ?_))
      exact bodyPost_ret (gK rfl _ _ .u8 w.heap.size 64 _ 5 rfl (jy.setRow 64 (fO 32 (dg 256 FI) (dg 256 (S:Int)))) FD zy) rfl ⟨rfl,aC fP (bB _) _⟩
theorem Gf (S:Int) (w:World):Calls Tryz.prog 92 #[.agg (arr .u8 32 (dg 256 S))] w fun e w'=>e=.returned (.agg (arr .u8 32 (dg 256 (qH S))))/\Below w.heap.size w w':=by
 have HK:=ak (fun w=>Ev S w);have HP:=ak (fun w v h=>Dm (v:=v) (A:=dg 256 ((uT S:Nat):Int)) (P:=oV S) (U:=dg 256 (qH S)) w h);obtain⟨U,hU⟩:∃U,U=qH S:=⟨_,rfl⟩
 rw[<-hU] at HK HP ⊢;clear hU
 go_enter Tryz.func92,Tryz.ntmps92
 go_upto_region 1 with(fail);refine aJ (fun w1=>aQ .u8 w1 w.heap.size 32 (dg 256 S)/\aQ .u8 w1 (w.heap.size+1) 32 (fun _=>0)/\Below w.heap.size w w1) ⟨.alloc (bU rfl rfl) _,bU (by first | omega | (simp<;> omega)) (by rfl),((bT _ _).alloc (bB _) _).alloc (by first | omega | (simp<;> omega)) _⟩ ?_;rintro w1 ⟨h1,h2,aA⟩;go_wp2_with (refine bq rfl 22 _ rfl .u8 w.heap.size 32 (dg 256 S) 5 dY dh rfl h1 ?_);refine(HK.out _).mono ?_;rintro e w2 ⟨r,rfl,hr,hb⟩;replace h2:=h2.kept hb;replace aA:=aA.trans (hb.mono aA.size);clear hb;go_wp2_with fail;refine(HP.out _ _ hr).mono ?_;rintro e w3 ⟨rfl,hb⟩;replace h2:=h2.kept hb;replace aA:=aA.trans (hb.mono aA.size);have hl2:=h2.lt;clear hb hr;go_upto_region 2 with(refine aM rfl 22 _ _ rfl .u8 w3.heap.size 32 (fun _=>0) (dg 256 U) dh rfl rfl (bU rfl (by rfl)) ?_);refine aJ (fun w4=>aQ .u8 w4 w3.heap.size 32 (dg 256 U)/\Below w3.heap.size w3 w4) ⟨(bU rfl (by rfl):aQ .u8 _ _ 32 (fun _=>0)).setRow _ _,aC ((bT _ _).alloc (bB _) _) (bB _) _⟩ ?_;rintro w4 ⟨h3,hb⟩;replace h2:=h2.kept hb;replace aA:=aA.trans (hb.mono aA.size);obtain⟨x3,e3⟩:∃x,x=w3.heap.size:=⟨_,rfl⟩
 rw[<-e3] at h3 hl2 ⊢;clear e3 hb
 try simp only[Act.put,dK,dL,dM]
 go_wp2_with (first
  | (refine bq rfl 22 _ rfl .u8 x3 32 (dg 256 U) 5 dY dh rfl h3 ?_)
  | (refine aM rfl 22 _ _ rfl .u8 (w.heap.size+1) 32 (fun _=>0) (dg 256 U) dh rfl rfl h2 ?_))
 exact bodyPost_ret (bg rfl _ _ .u8 (w.heap.size+1) 32 _ 5 rfl (h2.setRow _ _) dY dh) rfl ⟨rfl,aC aA aH _⟩
noncomputable def CJ (S:Int) (f:Nat->Int) (n:Nat):Nat->Int:=PZ (uT S) (oV S) (dg 256 (qH S)) f n
theorem LW (S:Int) (t:Value) (n:Nat) (f:Nat->Int) (w:World) (ht:Rd .u8 w t n f) (hn:n<=900000) (hf:∀i,i<n->0<=f i/\f i<256):
  Calls Tryz.prog 95 #[.agg (arr .u8 32 (dg 256 S)),t] w fun e w'=>e=.returned (.agg (arr .u8 64 (CJ S f n)))/\Below w.heap.size w w':=by
 have HK:=ak (fun w=>Ev S w);have HP:=ak (fun w v (h:xK w v (dg 256 ((uT S:Nat):Int)) (oV S) (dg 256 (qH S))) (ht:Rd .u8 w t n f)=>Jt t n f w h ht (Gg S) hn (fun i _=>aae S i) (fun i _=>aV aN _ _) hf);have HB:Hid (PZ (uT S) (oV S) (dg 256 (qH S)) f n=CJ S f n):=rfl;have HT:=ak ht;obtain⟨B,hB⟩:∃B,B=CJ S f n:=⟨_,rfl⟩
 rw[<-hB] at HB ⊢;rw[HB.out] at HP;clear hB hn hf ht HB;obtain⟨tl,tn,tc,et⟩:=HT.out.isSlice;subst et
 go_enter Tryz.func95,Tryz.ntmps95
 go_upto_region 1 with(fail);refine aJ (fun w1=>aQ .u8 w1 w.heap.size 32 (dg 256 S)/\aQ .u8 w1 (w.heap.size+1) 64 (fun _=>0)/\Below w.heap.size w w1) ⟨.alloc (bU rfl rfl) _,bU (by first | omega | (simp<;> omega)) (by rfl),((bT _ _).alloc (bB _) _).alloc (by first | omega | (simp<;> omega)) _⟩ ?_;rintro w1 ⟨h1,h2,aA⟩;replace HT:=ak (HT.out.below aA);go_wp2_with (refine bq rfl 22 _ rfl .u8 w.heap.size 32 (dg 256 S) 5 dY dh rfl h1 ?_);refine(HK.out _).mono ?_;rintro e w2 ⟨r,rfl,hr,hb⟩;replace h2:=h2.kept hb;replace HT:=ak (HT.out.below hb);replace aA:=aA.trans (hb.mono aA.size);clear hb;go_wp2_with fail;refine(HP.out _ _ hr HT.out).mono ?_;rintro e w3 ⟨rfl,hb⟩;replace h2:=h2.kept hb;replace aA:=aA.trans (hb.mono aA.size);have hl2:=h2.lt;clear hb hr;go_upto_region 2 with(refine aM rfl 47 _ _ rfl .u8 w3.heap.size 64 (fun _=>0) B zy rfl rfl (bU rfl (by rfl)) ?_);refine aJ (fun w4=>aQ .u8 w4 w3.heap.size 64 B/\Below w3.heap.size w3 w4) ⟨(bU rfl (by rfl):aQ .u8 _ _ 64 (fun _=>0)).setRow _ _,aC ((bT _ _).alloc (bB _) _) (bB _) _⟩ ?_;rintro w4 ⟨h3,hb⟩;replace h2:=h2.kept hb;replace aA:=aA.trans (hb.mono aA.size);obtain⟨x3,e3⟩:∃x,x=w3.heap.size:=⟨_,rfl⟩
 rw[<-e3] at h3 hl2 ⊢;clear e3 hb
 try simp only[Act.put,dK,dL,dM]
 go_wp2_with (first
  | (refine bq rfl 47 _ rfl .u8 x3 64 B 5 FD zy rfl h3 ?_)
  | (refine aM rfl 47 _ _ rfl .u8 (w.heap.size+1) 64 (fun _=>0) B zy rfl rfl h2 ?_))
 exact bodyPost_ret (bg rfl _ _ .u8 (w.heap.size+1) 64 _ 5 rfl (h2.setRow _ _) FD zy) rfl ⟨rfl,aC aA aH _⟩
def uQ (f2:Nat->Int):Int:=sm 256 f2 32
def rO (f2:Nat->Int):Nat:=(sm 256 (fun i=>f2 (32+i)) 32).toNat
noncomputable def Ls (A:Int) (n:Nat) (f f2:Nat->Int):Nat:=yA (32+(32+n)) (fO 32 (dg 256 (uQ f2)) (fO 32 (dg 256 A) f))
noncomputable def Db (A:Int) (p:Ed C7) (n:Nat) (f f2:Nat->Int):Ed C7:=(Bp.mul (rO f2)).add (p.mul (Ls A n f f2)).neg
def WS (A:Int) (n:Nat) (f:Nat->Int) (n2:Nat) (f2:Nat->Int) (c:Int):Prop:=
 (n2≠64->c=2)/\(n2=64->(¬ Mv A->c=21)/\∀p:Ed C7,dB p=A->(jo<=rO f2->c=22)/\(rO f2<jo->(dB (Db A p n f f2)=uQ f2->c=0)/\(dB (Db A p n f f2)≠uQ f2->c=22)))
theorem Gd (A:Int) (h0:0<=A) (h1:A<2 ^ 256) (t s:Value) (n n2:Nat) (f f2:Nat->Int) (w:World) (ht:Rd .u8 w t n f) (hs:Rd .u8 w s n2 f2) (hn:n<=900000) (hf:∀i,i<n->0<=f i/\f i<256) (hf2:∀i,i<n2->0<=f2 i/\f2 i<256):
  Calls Tryz.prog 104 #[.agg (arr .u8 32 (dg 256 A)),t,s] w fun e w'=> ∃c,e=.returned (.int .i64 c)/\WS A n f n2 f2 c/\Below w.heap.size w w':=by
 have HT:=ak ht;have Xf:=ak hs;obtain⟨tl,tn,tc,et⟩:=ht.isSlice;subst et;obtain⟨sl,sc,es,hc1,hc2,_,_⟩:=id hs;subst es;have HPO:=ak (fun w=>Yk A h0 h1 w);clear ht hs
 go_enter Tryz.func104,Tryz.ntmps104
 go_upto_region 1 with(fail);refine aJ (fun w1=>aQ .u8 w1 w.heap.size 32 (dg 256 A)/\Below w.heap.size w w1) ⟨bU rfl rfl,(bT _ _).alloc (bB _) _⟩ ?_;rintro w1 ⟨h3,aA⟩;replace HT:=ak (HT.out.below aA);replace Xf:=ak (Xf.out.below aA);by_cases h64:n2=64
 case neg=>
  have gB:¬ ((n2:Int)=64):=by omega
  have HR:Hid (WS A n f n2 f2 2):=⟨fun _=>rfl,fun h=>absurd h h64⟩
  clear h64;go_wp2;go_ret;exact⟨_,rfl,HR.out,aA⟩
 case pos=>
  subst h64;go_wp2_with (refine bq rfl 22 _ rfl .u8 w.heap.size 32 (dg 256 A) 5 dY dh rfl h3 ?_);refine(HPO.out _).mono ?_;rintro e w2 ⟨r,c,rfl,hof,hb⟩;replace h3:=h3.kept hb;replace HT:=ak (HT.out.below hb);replace Xf:=ak (Xf.out.below hb);replace aA:=aA.trans (hb.mono aA.size);have HR:∃F7,r=.agg (arr .i64 64 F7)/\((c=0/\∃p:Ed C7,rD F7 p/\dB p=A)\/(c=21/\¬ Mv A)):=by
   rcases hof with⟨rfl,ho,p,⟨F3,h8,h9⟩,h10⟩ | ⟨rfl,h8,ho⟩
   ·exact⟨F3,h8,.inl ⟨rfl,p,h9,h10⟩⟩
   ·exact⟨_,h8,.inr ⟨rfl,ho⟩⟩
  obtain⟨F7,rfl,hcc⟩:=HR;have HCC:=ak hcc;have hl3:=h3.lt;clear hof hb hcc;go_upto_region 4 with(refine aM rfl 193 _ _ rfl .i64 w2.heap.size 64 (fun _=>0) F7 Tryz.size193 rfl rfl (bU rfl (by rfl)) ?_);refine aJ (fun w5=>aQ .i64 w5 w2.heap.size 64 F7/\Below w2.heap.size w2 w5) ⟨(bU rfl (by rfl):aQ .i64 _ _ 64 (fun _=>0)).setRow _ _,aC ((bT _ _).alloc (bB _) _) (bB _) _⟩ ?_;rintro w5 ⟨h7,hb⟩;replace h3:=h3.kept hb;replace HT:=ak (HT.out.below hb);replace Xf:=ak (Xf.out.below hb);replace aA:=aA.trans (hb.mono aA.size);obtain⟨x7,e7⟩:∃x,x=w2.heap.size:=⟨_,rfl⟩
  rw[<-e7] at h7 hl3 ⊢;have hl7:=h7.lt;clear e7 hb
  try simp only[Act.put,dK,dL,dM]
  rcases HCC.out with⟨rfl,p,hpf,hbp⟩ | ⟨rfl,hno⟩
  case inr=>
   have HR:Hid (WS A n f 64 f2 21):=⟨fun h=>absurd rfl h,fun _=>⟨fun _=>rfl,fun q hq=>absurd (hq▸Bq q) hno⟩⟩
   clear hno HCC;go_wp2;go_ret;exact⟨_,rfl,HR.out,aA⟩
  case inl=>
   have HPF:=ak hpf;have HBP:=ak hbp;clear hpf hbp HCC;have hF:arr .u8 32 f2=arr .u8 32 (dg 256 (uQ f2)):=gP fun i hi=>(tJ aN (fun i hi=>hf2 i aH) i hi).symm;have hS0:0<=sm 256 (fun i=>f2 (32+i)) 32/\sm 256 (fun i=>f2 (32+i)) 32<256 ^ 32:=lW aN (fun i hi=>hf2 (32+i) aH);have hSn:((rO f2:Nat):Int)=sm 256 (fun i=>f2 (32+i)) 32:=Int.toNat_of_nonneg hS0.1;have hS:arr .u8 32 (fun i=>f2 (32+i))=arr .u8 32 (dg 256 ((rO f2:Nat):Int)):=by
    rw[hSn];exact gP fun i hi=>(tJ aN (fun i hi=>hf2 (32+i) aH) i hi).symm
   have hFb:0<=uQ f2/\uQ f2<256 ^ 32:=lW aN (fun i hi=>hf2 i aH);have HSL:Hid (rO f2<2 ^ 256):=by
    have e:(256:Int) ^ 32=2 ^ 256:=aN;unfold Hid;omega
   have Xg:Hid (∀w,Calls Tryz.prog 155 #[.agg (arr .u8 32 (dg 256 ((rO f2:Nat):Int)))] w fun e w'=>e=.returned (.bool (decide (rO f2<jo)))/\Below w.heap.size w w'):=fun w=>by
    have h:=RD ((rO f2:Nat):Int) w ⟨by omega,by omega⟩;rw[show decide (rO f2<jo)=decide (((rO f2:Nat):Int)<Q) from decide_eq_decide.2 (by rw[Ir];omega)];exact h
   have HNM:Hid (∀w v,oq w v 3 (iV 1 (fun _=>32) (iV 1 (fun _=>32) (fun _=>n))) (jP 1 (fun _=>dg 256 (uQ f2)) (jP 1 (fun _=>dg 256 A) (fun _=>f)))->Calls Tryz.prog 156 #[v] w fun e w'=>e=.returned (.agg (arr .u8 32 (dg 256 ((Ls A n f f2:Nat):Int))))/\Below w.heap.size w w'):=fun w v h=>
    Tg v 32 32 n _ _ f w h aH (fun i _=>aV aN _ _) (fun i _=>aV aN _ _) hf
   have Xm:Hid (Ls A n f f2<2 ^ 256):=Nat.lt_trans (wR _ _) aN;have hDb:=qX (Db A p n f f2);have HCM:Hid (lX 32 (dg 256 (dB (Db A p n f f2))) (dg 256 (uQ f2))=decide (dB (Db A p n f f2)=uQ f2)):=Tk hDb.1 (by have e:(256:Int) ^ 32=2 ^ 256:=aN;omega) hFb.1 hFb.2;have HVR:Hid (∀c,((rO f2<jo->((dB (Db A p n f f2)=uQ f2->c=0)/\(dB (Db A p n f f2)≠uQ f2->c=22)))/\(jo<=rO f2->c=22))->WS A n f 64 f2 c):=fun c hc=>by
    refine⟨fun h=>absurd rfl h,fun _=>⟨fun h=>absurd (HBP.out▸Bq p) h,fun q hq=>?_⟩⟩;obtain rfl:q=p:=Ny (hq.trans HBP.out.symm);exact⟨hc.2,hc.1⟩
   have HD:Hid (Db A p n f f2=(Bp.mul (rO f2)).add (p.mul (Ls A n f f2)).neg):=rfl;obtain⟨D,hD⟩:∃D,D=Db A p n f f2:=⟨_,rfl⟩
   rw[<-hD] at HCM HVR HD;obtain⟨K,hK⟩:∃K,K=Ls A n f f2:=⟨_,rfl⟩
   rw[<-hK] at HNM Xm HD;obtain⟨S2,hS2⟩:∃S2,S2=rO f2:=⟨_,rfl⟩
   rw[<-hS2] at hS HSL Xg HVR HD;obtain⟨F1,hF1⟩:∃F1,F1=uQ f2:=⟨_,rfl⟩
   rw[<-hF1] at hF HNM HCM HVR;have HFQ:=ak hF;have Xe:=ak hS;have RU:=ak GA;have ZM:=ak (fun w=>Bg w);obtain⟨F,zn⟩:∃F,F=Cm:=⟨_,rfl⟩
   rw[<-zn] at RU ZM;have G1:=ak (Rd.head (P:=Tryz.prog) lK pI sl 64 sc 32 aN hc1);obtain⟨a2,g1,g2,g3⟩:=Rd.cut (P:=Tryz.prog) lK pI sl 64 sc 32 64 aN (bB _) hc1;have G2:=ak g2;obtain⟨b1,o1,q1,l1,c1⟩:=(G1.out.2 _ _ Xf.out).BK aN;obtain⟨b2,o2,q2,l2,c2⟩:=(g3 _ _ Xf.out).2.BK aN;subst q1;subst q2;have CB:=ak c1;have Pn:=ak c2;clear hD hK hS2 hF1 zn hF hS hS0 hSn hFb hDb g1 g2 g3 c1 c2 h0 h1 hf hf2 hn hc2 Xf hc1;go_upto_region 6 with(fail)
   refine bG (n:=50) aS aS aS rfl
    (gZ [(10,8),(11,9)]) (eZ [(10,8),(11,9)]) (fun _=>arr .u8 32 (fun _=>0)) (fun i=>match i with | 8=>(arr .u8 32 (dg 256 F1)) | 9=>(arr .u8 32 (dg 256 (S2:Int))) | _=> #[]) (fun _=>22) (fun i=>match i with | 8=>9 | 9=>10 | _=>0)
    (fun ii vv _=>(match ii with | 0 | 4=>vv=.slice (some ⟨b1,o1,none⟩) 64 sc | 1=>vv=.slice (some ⟨b1,o1,none⟩) 32 sc | 2=>vv=.pointer (some ⟨b1,o1,none⟩) | 3=>vv=.agg (arr .u8 32 (dg 256 F1)) | 5=>vv=.slice (some ⟨b2,o2,none⟩) (64 - 32) (sc - 32) | 6=>vv=.pointer (some ⟨b2,o2,none⟩) | 7=>vv=.agg (arr .u8 32 (dg 256 (S2:Int))) | _=>True)) (fun _ _=>True) (fun _ _ _=>trivial) (fun _ _ _ _ _ _ _=>trivial) (fun _ _ _ _ h _=>h)
    (fJ rfl) (dU rfl) ?_ ?_ ?_ ?_
   ·refine cB ?_;refine⟨?_,?_,?_,?_,?_,?_,?_,?_,(fun h=>by cases h),(fun h=>by cases h),(fun _ h=>by cases h),(fun _ h=>by cases h),trivial⟩
    ·intro _ _ a w2 hB hF hd;exact aO <| aB _ (.inl rfl) aR (hF.same 2 rfl)
    ·intro _ _ a w2 hB hF hd;exact aO <| aT (eY rfl (hd 0 _ rfl rfl rfl (aj rfl)) (by simp only[Option.map_some,Option.map_none];exact G1.out.1 _)) rfl
    ·intro _ _ a w2 hB hF hd;exact aO <| aT (jc rfl (hd 1 _ rfl rfl rfl (aj rfl)) dY aN) rfl
    ·intro _ _ a w2 hB hF hd;exact aO <| aT (gL rfl (hd 2 _ rfl rfl rfl (aj rfl)) dY dh (fun i hi=>(hB.cell (p:=⟨b1,o1+i,none⟩) l1).trans (CB.out i hi))) (congrArg Value.agg HFQ.out)
    ·intro _ _ a w2 hB hF hd;exact aO <| aB _ (.inl rfl) aR (hF.same 2 rfl)
    ·intro _ _ a w2 hB hF hd;exact aO <| aT (eY rfl (hd 4 _ rfl rfl rfl (aj rfl)) (by simp only[Option.map_some,Option.map_none];exact G2.out _)) rfl
    ·intro _ _ a w2 hB hF hd;exact aO <| aT (jc rfl (hd 5 _ rfl rfl rfl (aj rfl)) dY aN) rfl
    ·intro _ _ a w2 hB hF hd;exact aO <| aT (gL rfl (hd 6 _ rfl rfl rfl (aj rfl)) dY dh (fun i hi=>(hB.cell (p:=⟨b2,o2+i,none⟩) l2).trans (Pn.out i hi))) (congrArg Value.agg Xe.out)
   ·refine cB ?_;refine⟨(fun h=>by cases h),(fun h=>by cases h),(fun h=>by cases h),(fun h=>by cases h),(fun h=>by cases h),(fun h=>by cases h),(fun h=>by cases h),(fun h=>by cases h),?_,?_,(fun h=>by cases h),(fun h=>by cases h),trivial⟩
    ·exact fun _=>⟨rfl,rfl,fun a w2 K h=>aZ rfl rfl Tryz.zeroValue22 aR h⟩
    ·exact fun _=>⟨rfl,rfl,fun a w2 K h=>aZ rfl rfl Tryz.zeroValue22 aR h⟩
   ·refine cB ?_;refine⟨(fun _ h=>by cases h),(fun _ h=>by cases h),(fun _ h=>by cases h),(fun _ h=>by cases h),(fun _ h=>by cases h),(fun _ h=>by cases h),(fun _ h=>by cases h),(fun _ h=>by cases h),(fun _ h=>by cases h),(fun _ h=>by cases h),?_,?_,trivial⟩
    ·intro p hp;obtain rfl:8=p:=iy hp;exact⟨rfl,rfl,⟨_,rfl⟩,aj rfl,fun a w2 b K hB hF hd hx hb h=>bJ rfl rfl dh hx (hd 3 _ rfl rfl rfl (aj rfl)) hb h⟩
    ·intro p hp;obtain rfl:9=p:=iy hp;exact⟨rfl,rfl,⟨_,rfl⟩,aj rfl,fun a w2 b K hB hF hd hx hb h=>bJ rfl rfl dh hx (hd 7 _ rfl rfl rfl (aj rfl)) hb h⟩
   ·intro a w6 blk hB hF hS hv hfin dw;obtain⟨v8,v8l,v8u⟩:=hv 8 _ rfl rfl;obtain⟨v9,v9l,v9u⟩:=hv 9 _ rfl rfl;have ha:=aP rfl rfl hF [_,_,_,_,_,_,_,_,_,_,undef,undef] rfl ⟨hS 0 _ rfl rfl rfl,hS 1 _ rfl rfl rfl,hS 2 _ rfl rfl rfl,hS 3 _ rfl rfl rfl,hS 4 _ rfl rfl rfl,hS 5 _ rfl rfl rfl,hS 6 _ rfl rfl rfl,hS 7 _ rfl rfl rfl,v8,v9,trivial,trivial,trivial⟩;have f8:=hfin 10 _ 8 rfl rfl;have f9:=hfin 11 _ 9 rfl rfl;have akv:=dw 8 9 _ _ rfl rfl rfl rfl aN;simp only[puts,Act.put,dK,dL,dM] at ha;subst ha;have V8:aQ .u8 w6 (blk 8) 32 (dg 256 F1):=⟨_,f8⟩
    have V9:aQ .u8 w6 (blk 9) 32 (dg 256 (S2:Int)):=⟨_,f9⟩
    clear hS hv hfin dw hF v8 v9 f8 f9;replace h3:=h3.kept hB;replace h7:=h7.kept hB;replace HT:=ak (HT.out.below hB);replace aA:=aA.trans (hB.mono aA.size);obtain⟨x9,e9⟩:∃x,x=blk 8:=⟨_,rfl⟩
    obtain⟨x10,e10⟩:∃x,x=blk 9:=⟨_,rfl⟩
    rw[<-e9] at V8 v8l ⊢;rw[<-e10] at V9 v9l ⊢;have h9:=V8;have h10:=V9;clear hB V8 V9 v8l v8u v9l v9u akv e9 e10 l1 l2 CB Pn G1 G2 HFQ Xe;go_wp2_with (refine bq rfl 22 _ rfl .u8 x10 32 (dg 256 (S2:Int)) 5 dY dh rfl h10 ?_);refine(Xg.out _).mono ?_;rintro e w7 ⟨rfl,hb⟩;replace h3:=h3.kept hb;replace h7:=h7.kept hb;replace h9:=h9.kept hb;replace h10:=h10.kept hb;replace HT:=ak (HT.out.below hb);replace aA:=aA.trans (hb.mono aA.size);clear hb;by_cases hlt:S2<jo
    case neg=>
     have HR:=ak (HVR.out 22 ⟨fun h=>absurd h hlt,fun _=>rfl⟩);rw[decide_eq_false hlt];clear hlt;go_wp2;go_ret;exact⟨_,rfl,HR.out,aA⟩
    case pos=>
     rw[decide_eq_true hlt];have Pm:=ak hlt;clear hlt;go_upto_region 9 with(fail)
     refine bG (n:=50) aS aS aS rfl
      (gZ [(6,5)]) (eZ [(6,5)]) (fun _=>arr .u8 32 (fun _=>0)) (fun _=>(arr .u8 32 (dg 256 (K:Int)))) (fun _=>22) (fun _=>11)
      (fun ii vv ww=>(match ii with | 0=>vv=.slice (some ⟨x9,0,none⟩) 32 32 | 1=>vv=.slice (some ⟨w.heap.size,0,none⟩) 32 32 | 2=>vv=.slice tl tn tc | 4=>vv=.agg (arr .u8 32 (dg 256 (K:Int))) | _=>True)/\(ii=3->xO ww vv 23 3 [.slice (some ⟨x9,0,none⟩) 32 32,.slice (some ⟨w.heap.size,0,none⟩) 32 32,.slice tl tn tc].toArray)) (tQ [22]) (fun _ _ h=>tQ.below h) (fun w b cs p _ _ hz=>tQ.row hz rfl) (fun i v w w' h hE=>⟨h.1,fun e=>xO.aao rfl (h.2 e) hE⟩)
      (fJ rfl) (dU rfl) ?_ ?_ ?_ ?_
     ·refine cB ?_;refine⟨?_,?_,?_,?_,?_,(fun h=>by cases h),(fun _ h=>by cases h),trivial⟩
      ·intro _ _ a w2 hB hF hd;exact aO <| aT (fC rfl (hF.same 9 rfl) dY aS) ⟨rfl,aL⟩
      ·intro _ _ a w2 hB hF hd;exact aO <| aT (fC rfl (hF.same 3 rfl) dY aS) ⟨rfl,aL⟩
      ·intro _ _ a w2 hB hF hd;exact aO <| aB _ (.inl rfl) aR ⟨(hF.same 1 rfl),aL⟩
      ·intro _ _ a w2 hB hF hd;exact aO <| kI 55 23 3 _ [.slice (some ⟨x9,0,none⟩) 32 32,.slice (some ⟨w.heap.size,0,none⟩) 32 32,.slice tl tn tc] rfl Tryz.underlying55 aS aS rfl aN aN (by intro v hv;simp only[List.mem_cons,List.not_mem_nil,or_false] at hv;rcases hv with rfl | rfl | rfl<;> rfl) (by simp only[zw,List.map_cons,List.map_nil,show a.eval (Operand.tmp 34)=.slice (some ⟨x9,0,none⟩) 32 32 from((hd 0 _ rfl rfl rfl (aj rfl)).1),show a.eval (Operand.tmp 35)=.slice (some ⟨w.heap.size,0,none⟩) 32 32 from((hd 1 _ rfl rfl rfl (aj rfl)).1),show a.eval (Operand.tmp 36)=.slice tl tn tc from((hd 2 _ rfl rfl rfl (aj rfl)).1)];rfl) aR ⟨trivial,fun _=>((⟨_,rfl,heap_alloc_new _ _⟩))⟩
      ·intro _ _ a w2 hB hF hd;refine aO <| aD _ _ _ rfl Tryz.call156 _ (args1 rfl) aR ((HNM.out w2 _ (((hd 3 _ rfl rfl rfl (aj rfl)).2 rfl).aeO ((h9.kept hB).rd aN) ((h3.kept hB).rd aN) (HT.out.below hB))).mono ?_);rintro e w3 ⟨rfl,hb⟩;exact⟨_,rfl,⟨rfl,aL⟩,hb⟩
     ·refine cB ?_;refine⟨(fun h=>by cases h),(fun h=>by cases h),(fun h=>by cases h),(fun h=>by cases h),(fun h=>by cases h),?_,(fun h=>by cases h),trivial⟩
      ·exact fun _=>⟨rfl,rfl,fun a w2 K h=>aZ rfl rfl Tryz.zeroValue22 aR h⟩
     ·refine cB ?_;refine⟨(fun _ h=>by cases h),(fun _ h=>by cases h),(fun _ h=>by cases h),(fun _ h=>by cases h),(fun _ h=>by cases h),(fun _ h=>by cases h),?_,trivial⟩
      ·intro p hp;obtain rfl:5=p:=iy hp;exact⟨rfl,rfl,⟨_,rfl⟩,aj rfl,fun a w2 b K hB hF hd hx hb h=>bJ rfl rfl dh hx ((hd 4 _ rfl rfl rfl (aj rfl)).1) hb h⟩
     ·intro a w8 blk hB hF hS hv hfin dw;obtain⟨v5,xQ,FR⟩:=hv 5 _ rfl rfl;obtain⟨x37,afi⟩:∃x,x=a.tmps.getD 37 undef:=⟨_,rfl⟩
      have ha:=aP rfl rfl hF [_,_,_,x37,_,_,undef] rfl ⟨(hS 0 _ rfl rfl rfl).1,(hS 1 _ rfl rfl rfl).1,(hS 2 _ rfl rfl rfl).1,afi.symm,(hS 4 _ rfl rfl rfl).1,v5,trivial,trivial⟩;have f5:=hfin 6 _ 5 rfl rfl;simp only[puts,Act.put,dK,dL,dM] at ha;subst ha;clear afi;have V5:aQ .u8 w8 (blk 5) 32 (dg 256 (K:Int)):=⟨_,f5⟩
      clear hS hv hfin dw hF v5 f5;replace h7:=h7.kept hB;replace h9:=h9.kept hB;replace h10:=h10.kept hB;replace aA:=aA.trans (hB.mono aA.size);obtain⟨x11,e11⟩:∃x,x=blk 5:=⟨_,rfl⟩
      rw[<-e11] at V5 ⊢;have h11:=V5;clear hB V5 xQ FR e11 h3 HT;go_upto_region 10 with(fail);by_cases hcm:dB D=F1
      case pos=>
       have HR:=ak (HVR.out 0 ⟨fun _=>⟨fun _=>rfl,fun h=>absurd hcm h⟩,fun h=>absurd Pm.out aH⟩);have HQ:Hid (lX 32 (dg 256 (dB D)) (dg 256 F1)=true):=by rw[HCM.out];exact decide_eq_true hcm
       clear hcm
       refine aX (n:=50) aS aS aS rfl
        (fun ii vv ww=>(match ii with | 0=>vv=.agg (arr .i64 64 (F)) | 1=>vv=.agg (arr .u8 32 (dg 256 (S2:Int))) | 3=>vv=.agg (arr .i64 64 (F7)) | 4=>vv=.agg (arr .u8 32 (dg 256 (K:Int))) | 8=>vv=.agg (arr .u8 32 (dg 256 (dB D))) | 9=>vv=.agg (arr .u8 32 (dg 256 F1)) | 10=>vv=.bool false | _=>True)/\(ii=2->uG vv (Bp.mul S2))/\(ii=5->uG vv (p.mul K))/\(ii=6->uG vv ((p.mul K).neg))/\(ii=7->uG vv ((Bp.mul S2).add ((p.mul K).neg))))
        (fun w w'=>Below w.heap.size w w') (fun _ _ h=>h) (fun i v w w' h hE=>⟨h.1,fun e=>uG.keep (h.2.1 e) hE,fun e=>uG.keep (h.2.2.1 e) hE,fun e=>uG.keep (h.2.2.2.1 e) hE,fun e=>uG.keep (h.2.2.2.2 e) hE⟩) ?_ ?_
       ·refine cB ?_;refine⟨?_,?_,?_,?_,?_,?_,?_,?_,?_,?_,?_,trivial⟩
        ·intro a w2 hB hF hd;refine aO <| aD _ _ _ rfl Tryz.call157 _ mZ aR ((ZM.out w2).mono ?_);rintro e w3 ⟨rfl,hb⟩;exact⟨_,rfl,⟨rfl,aL,aL,aL,aL⟩,hb⟩
        ·intro a w2 hB hF hd;exact aO <| aT (aF rfl dY rfl dh (hF.same 10 rfl) (h10.below hB h10.lt)) ⟨rfl,aL,aL,aL,aL⟩
        ·intro a w2 hB hF hd;refine aO <| aD _ _ _ rfl Tryz.call158 _ (args2 ((hd 0 _ rfl (aj rfl)).1) ((hd 1 _ rfl (aj rfl)).1)) aR ((EC S2 HSL.out w2 ⟨_,rfl,RU.out⟩).mono ?_);rintro e w3 ⟨u,rfl,hr,hb⟩;exact⟨u,rfl,⟨trivial,fun _=>hr,aL,aL,aL⟩,hb⟩
        ·intro a w2 hB hF hd;exact aO <| aT (aF rfl vH rfl Tryz.size193 (hF.same 7 rfl) (h7.below hB h7.lt)) ⟨rfl,aL,aL,aL,aL⟩
        ·intro a w2 hB hF hd;exact aO <| aT (aF rfl dY rfl dh (hF.same 11 rfl) (h11.below hB h11.lt)) ⟨rfl,aL,aL,aL,aL⟩
        ·intro a w2 hB hF hd;refine aO <| aD _ _ _ rfl Tryz.call158 _ (args2 ((hd 3 _ rfl (aj rfl)).1) ((hd 4 _ rfl (aj rfl)).1)) aR ((EC K Xm.out w2 ⟨_,rfl,HPF.out⟩).mono ?_);rintro e w3 ⟨u,rfl,hr,hb⟩;exact⟨u,rfl,⟨trivial,aL,fun _=>hr,aL,aL⟩,hb⟩
        ·intro a w2 hB hF hd;refine aO <| aD _ _ _ rfl Tryz.call160 _ (args1 rfl) aR ((aaj w2 ((hd 5 _ rfl (aj rfl)).2.2.1 rfl)).mono ?_);rintro e w3 ⟨u,rfl,hr,hb⟩;exact⟨u,rfl,⟨trivial,aL,aL,fun _=>hr,aL⟩,hb⟩
        ·intro a w2 hB hF hd;refine aO <| aD _ _ _ rfl Tryz.call159 _ (args2 rfl rfl) aR ((aak w2 ((hd 2 _ rfl (aj rfl)).2.1 rfl) ((hd 6 _ rfl (aj rfl)).2.2.2.1 rfl)).mono ?_);rintro e w3 ⟨u,rfl,hr,hb⟩;exact⟨u,rfl,⟨trivial,aL,aL,aL,fun _=>hr⟩,hb⟩
        ·intro a w2 hB hF hd;refine aO <| aD _ _ _ rfl Tryz.call161 _ (args1 rfl) aR (((HD.out▸zX w2 ((hd 7 _ rfl (aj rfl)).2.2.2.2 rfl))).mono ?_);rintro e w3 ⟨rfl,hb⟩;exact⟨_,rfl,⟨rfl,aL,aL,aL,aL⟩,hb⟩
        ·intro a w2 hB hF hd;exact aO <| aT (aF rfl dY rfl dh (hF.same 9 rfl) (h9.below hB h9.lt)) ⟨rfl,aL,aL,aL,aL⟩
        ·intro a w2 hB hF hd;exact aO <| aT (kG true rfl ((hd 8 _ rfl (aj rfl)).1) ((hd 9 _ rfl (aj rfl)).1) dY aS aS aS aS aS HQ.out) ⟨rfl,aL,aL,aL,aL⟩
       ·intro a w9 hB hF hS;obtain⟨x41,UR⟩:∃x,x=a.tmps.getD 41 undef:=⟨_,rfl⟩
        obtain⟨x44,UQ⟩:∃x,x=a.tmps.getD 44 undef:=⟨_,rfl⟩
        obtain⟨ZT,GY⟩:∃x,x=a.tmps.getD 45 undef:=⟨_,rfl⟩
        obtain⟨x46,Kr⟩:∃x,x=a.tmps.getD 46 undef:=⟨_,rfl⟩
        have ha:=aP rfl rfl hF [_,_,x41,_,_,x44,ZT,x46,_,_,_] rfl ⟨(hS 0 _ rfl).1,(hS 1 _ rfl).1,UR.symm,(hS 3 _ rfl).1,(hS 4 _ rfl).1,UQ.symm,GY.symm,Kr.symm,(hS 8 _ rfl).1,(hS 9 _ rfl).1,(hS 10 _ rfl).1,trivial⟩;simp only[puts,Act.put,dK,dL,dM] at ha;subst ha;clear UR UQ GY Kr;clear hS hF;have DN:=aA.trans (hB.mono aA.size);go_wp2;go_ret;exact⟨_,rfl,HR.out,DN⟩
      case neg=>
       have HR:=ak (HVR.out 22 ⟨fun _=>⟨fun h=>absurd h hcm,fun _=>rfl⟩,fun _=>rfl⟩);have HQ:Hid (lX 32 (dg 256 (dB D)) (dg 256 F1)=false):=by rw[HCM.out];exact decide_eq_false hcm
       clear hcm
       refine aX (n:=50) aS aS aS rfl
        (fun ii vv ww=>(match ii with | 0=>vv=.agg (arr .i64 64 (F)) | 1=>vv=.agg (arr .u8 32 (dg 256 (S2:Int))) | 3=>vv=.agg (arr .i64 64 (F7)) | 4=>vv=.agg (arr .u8 32 (dg 256 (K:Int))) | 8=>vv=.agg (arr .u8 32 (dg 256 (dB D))) | 9=>vv=.agg (arr .u8 32 (dg 256 F1)) | 10=>vv=.bool true | _=>True)/\(ii=2->uG vv (Bp.mul S2))/\(ii=5->uG vv (p.mul K))/\(ii=6->uG vv ((p.mul K).neg))/\(ii=7->uG vv ((Bp.mul S2).add ((p.mul K).neg))))
        (fun w w'=>Below w.heap.size w w') (fun _ _ h=>h) (fun i v w w' h hE=>⟨h.1,fun e=>uG.keep (h.2.1 e) hE,fun e=>uG.keep (h.2.2.1 e) hE,fun e=>uG.keep (h.2.2.2.1 e) hE,fun e=>uG.keep (h.2.2.2.2 e) hE⟩) ?_ ?_
       ·refine cB ?_;refine⟨?_,?_,?_,?_,?_,?_,?_,?_,?_,?_,?_,trivial⟩
        ·intro a w2 hB hF hd;refine aO <| aD _ _ _ rfl Tryz.call157 _ mZ aR ((ZM.out w2).mono ?_);rintro e w3 ⟨rfl,hb⟩;exact⟨_,rfl,⟨rfl,aL,aL,aL,aL⟩,hb⟩
        ·intro a w2 hB hF hd;exact aO <| aT (aF rfl dY rfl dh (hF.same 10 rfl) (h10.below hB h10.lt)) ⟨rfl,aL,aL,aL,aL⟩
        ·intro a w2 hB hF hd;refine aO <| aD _ _ _ rfl Tryz.call158 _ (args2 ((hd 0 _ rfl (aj rfl)).1) ((hd 1 _ rfl (aj rfl)).1)) aR ((EC S2 HSL.out w2 ⟨_,rfl,RU.out⟩).mono ?_);rintro e w3 ⟨u,rfl,hr,hb⟩;exact⟨u,rfl,⟨trivial,fun _=>hr,aL,aL,aL⟩,hb⟩
        ·intro a w2 hB hF hd;exact aO <| aT (aF rfl vH rfl Tryz.size193 (hF.same 7 rfl) (h7.below hB h7.lt)) ⟨rfl,aL,aL,aL,aL⟩
        ·intro a w2 hB hF hd;exact aO <| aT (aF rfl dY rfl dh (hF.same 11 rfl) (h11.below hB h11.lt)) ⟨rfl,aL,aL,aL,aL⟩
        ·intro a w2 hB hF hd;refine aO <| aD _ _ _ rfl Tryz.call158 _ (args2 ((hd 3 _ rfl (aj rfl)).1) ((hd 4 _ rfl (aj rfl)).1)) aR ((EC K Xm.out w2 ⟨_,rfl,HPF.out⟩).mono ?_);rintro e w3 ⟨u,rfl,hr,hb⟩;exact⟨u,rfl,⟨trivial,aL,fun _=>hr,aL,aL⟩,hb⟩
        ·intro a w2 hB hF hd;refine aO <| aD _ _ _ rfl Tryz.call160 _ (args1 rfl) aR ((aaj w2 ((hd 5 _ rfl (aj rfl)).2.2.1 rfl)).mono ?_);rintro e w3 ⟨u,rfl,hr,hb⟩;exact⟨u,rfl,⟨trivial,aL,aL,fun _=>hr,aL⟩,hb⟩
        ·intro a w2 hB hF hd;refine aO <| aD _ _ _ rfl Tryz.call159 _ (args2 rfl rfl) aR ((aak w2 ((hd 2 _ rfl (aj rfl)).2.1 rfl) ((hd 6 _ rfl (aj rfl)).2.2.2.1 rfl)).mono ?_);rintro e w3 ⟨u,rfl,hr,hb⟩;exact⟨u,rfl,⟨trivial,aL,aL,aL,fun _=>hr⟩,hb⟩
        ·intro a w2 hB hF hd;refine aO <| aD _ _ _ rfl Tryz.call161 _ (args1 rfl) aR (((HD.out▸zX w2 ((hd 7 _ rfl (aj rfl)).2.2.2.2 rfl))).mono ?_);rintro e w3 ⟨rfl,hb⟩;exact⟨_,rfl,⟨rfl,aL,aL,aL,aL⟩,hb⟩
        ·intro a w2 hB hF hd;exact aO <| aT (aF rfl dY rfl dh (hF.same 9 rfl) (h9.below hB h9.lt)) ⟨rfl,aL,aL,aL,aL⟩
        ·intro a w2 hB hF hd;exact aO <| aT (kG false rfl ((hd 8 _ rfl (aj rfl)).1) ((hd 9 _ rfl (aj rfl)).1) dY aS aS aS aS aS HQ.out) ⟨rfl,aL,aL,aL,aL⟩
       ·intro a w9 hB hF hS;obtain⟨x41,UR⟩:∃x,x=a.tmps.getD 41 undef:=⟨_,rfl⟩
        obtain⟨x44,UQ⟩:∃x,x=a.tmps.getD 44 undef:=⟨_,rfl⟩
        obtain⟨ZT,GY⟩:∃x,x=a.tmps.getD 45 undef:=⟨_,rfl⟩
        obtain⟨x46,Kr⟩:∃x,x=a.tmps.getD 46 undef:=⟨_,rfl⟩
        have ha:=aP rfl rfl hF [_,_,x41,_,_,x44,ZT,x46,_,_,_] rfl ⟨(hS 0 _ rfl).1,(hS 1 _ rfl).1,UR.symm,(hS 3 _ rfl).1,(hS 4 _ rfl).1,UQ.symm,GY.symm,Kr.symm,(hS 8 _ rfl).1,(hS 9 _ rfl).1,(hS 10 _ rfl).1,trivial⟩;simp only[puts,Act.put,dK,dL,dM] at ha;subst ha;clear UR UQ GY Kr;clear hS hF;have DN:=aA.trans (hB.mono aA.size);go_wp2;go_ret;exact⟨_,rfl,HR.out,DN⟩
theorem afb:(256:Int) ^ 32=2 ^ 256:=by decide
theorem ail {n:Nat} {f g:Nat->Int} {i:Nat} (h:i<n):fO n f g i=f i:=by unfold fO;rw[if_pos h]
theorem ain {n:Nat} {f g:Nat->Int} (i:Nat):fO n f g (n+i)=g i:=by unfold fO;rw[if_neg (by omega),show n+i-n=i by omega]
theorem IV (X:Int) (g:Nat->Int) (h0:0<=X) (h1:X<2 ^ 256):uQ (fO 32 (dg 256 X) g)=X:=by
 unfold uQ;rw[pO (g:=dg 256 X) (fun i hi=>ail hi),rF aN,uO h0 (by rw[afb];exact h1)]
theorem Sr (f:Nat->Int) (S:Nat) (h:S<2 ^ 256):rO (fO 32 f (dg 256 (S:Int)))=S:=by
 unfold rO;rw[pO (g:=dg 256 (S:Int)) (fun i _=>ain i),rF aN,uO aH (by rw[afb];omega)];exact Ct S
theorem Gc (P f:Nat->Int) (n:Nat):0<=vX P f n/\vX P f n<2 ^ 256:=qX _
theorem PY (A:Nat) (P U f:Nat->Int) (n:Nat):Bp.mul (vW A P U f n)=((Bp.mul A).mul (pQ P U f n)).add (Bp.mul (rP P f n)):=by
 unfold vW;rw[Fz,Ed.mul_add,Fz,Nat.mul_comm,Ed.GI]
theorem KX (p q:Ed C7):(p.add q).add p.neg=q:=by
 rw[Ed.add_comm p q,Ed.add_assoc,Ed.add_neg,Ed.add_zero]
theorem XH (U:Int) (P f g:Nat->Int) (n:Nat):Ls U n f (fO 32 (dg 256 (vX P f n)) g)=pQ P (dg 256 U) f n:=by
 unfold Ls pQ;rw[IV _ _ (Gc P f n).1 (Gc P f n).2]
theorem Sq {S:Int} {n:Nat} {f:Nat->Int} {c:Int} (h:WS (qH S) n f 64 (CJ S f n) c):c=0:=by
 have h1:=(h.2 rfl).2 (Bp.mul (uT S)) rfl;have hS:rO (CJ S f n)=vW (uT S) (oV S) (dg 256 (qH S)) f n:=Sr _ _ (Nat.lt_trans (Od _ _ _ _ _) aN);have hF:uQ (CJ S f n)=vX (oV S) f n:=IV _ _ (Gc _ _ _).1 (Gc _ _ _).2;refine(h1.2 (by rw[hS];exact Od _ _ _ _ _)).1 ?_;unfold Db;rw[hS,hF];unfold CJ PZ;rw[XH,PY,KX]
 rfl
theorem Ti (S:Int) (f:Nat->Int) (n i:Nat):0<=CJ S f n i/\CJ S f n i<256:=by
 unfold CJ PZ fO
 split
 ·exact aV aN _ _
 ·exact aV aN _ _
theorem aad (S:Int):0<=qH S/\qH S<2 ^ 256:=qX _
theorem Tf (S:Int) (t s:Value) (n:Nat) (f:Nat->Int) (w:World) (ht:Rd .u8 w t n f) (hs:Rd .u8 w s 64 (CJ S f n)) (hn:n<=900000) (hf:∀i,i<n->0<=f i/\f i<256):
  Calls Tryz.prog 104 #[.agg (arr .u8 32 (dg 256 (qH S))),t,s] w fun e w'=>e=.returned (.int .i64 0)/\Below w.heap.size w w':=by
 refine(Gd (qH S) (aad S).1 (aad S).2 t s n 64 f (CJ S f n) w ht hs hn hf (fun i _=>Ti S f n i)).mono ?_;rintro e w' ⟨c,rfl,hc,hb⟩;obtain rfl:=Sq hc;exact⟨rfl,hb⟩
end Go.Proofs.YtpcjekgfnfjbpaaGreat
