/-
  Part 50 of SuiteNone. Conditions: named in each theorem.
-/
import Derived.Test.YtpcjekgfnfjbpaaGreatPkSuiteNone39
import Derived.Test.YtpcjekgfnfjbpaaGreatPkSuiteNone45
import Derived.Test.YtpcjekgfnfjbpaaGreatPkSuiteNone49
set_option linter.unusedVariables false
set_option linter.unusedSimpArgs false
set_option maxRecDepth 100000
set_option maxHeartbeats 6400000
namespace Go.bI
open Go.RowKit
theorem Rd.Gs {k:IntKind} {w:World} {a:Option Addr} {n c:Nat} {f:Nat->Int} (h:Rd k w (.slice a n c) n f) (hn:0<n):∃b o,a=some ⟨b,o,none⟩/\b<w.heap.size/\∀i,i<n->w.cell? ⟨b,o+i,none⟩=some (.int k (f i)):=by
 obtain ⟨a',c',he,_,_,_,h4⟩:=h;obtain ⟨b,o,rfl,hb,hc⟩:=h4 hn;simp only [Value.slice.injEq,true_and] at he;exact ⟨b,o,he.1,hb,hc⟩
section
variable {P : Program} {o : Oper} {a : Act} {w : World} {Q : Exit -> Act -> World -> Prop}
theorem Cz {T e:TypeId} {x:Operand} {b off n:Nat} (ho:o.op=.slice T x none none none) (hx:a.eval x=.pointer (some ⟨b,off,none⟩))
  (hu:P.underlying T=some (.array n e)) (hi:(P.info? e).map (·.size)=some 1):(execOp a.eval o).run P w=.ok (.value (.slice (some ⟨b,off,none⟩) n n)) w:=by
 obtain ⟨i,h1,h2⟩:=Option.map_eq_some_iff.1 hi;unfold execOp;simp only [ho,hx];simp [Instr.sliceAt,Instr.sureAddr,run_underlying hu,Instr.sliceBounds,sizeOf,typeInfo,h1,h2];exact fun _=> rfl
theorem nL {T e:TypeId} {b n m:Nat} (hu:P.underlying T=some (.array n e)) (hi:(P.info? e).map (·.size)=some 1) (hm:m<n):
  (Instr.sliceAt T (.pointer (some ⟨b,0,none⟩)) (some (.int .i64 (m:Int))) none none).run P w=.ok (.slice (some ⟨b,m,none⟩) (n - m) (n - m)) w:=by
 obtain ⟨i,h1,h2⟩:=Option.map_eq_some_iff.1 hi;have hm':m<=n:=by omega
 simp [Instr.sliceAt,Instr.sureAddr,run_underlying hu,Instr.sliceBounds,run_sliceBound,sizeOf,typeInfo,h1,h2,hm',Addr.add];rw [if_neg (by omega)];by_cases h0:m=0
 ·rw [if_pos h0,h0]
 ·rw [if_neg h0]
theorem VU {T:TypeId} {x:Operand} {cs:Array Value} {S:Value->World->Prop} (ho:o.op=.box T x) (hx:a.eval x=.agg cs) (hne:cs≠ #[]) (hd:o.dst≠none)
  (hs:S (.pointer (some ⟨w.heap.size,0,none⟩)) (w.alloc (.cells cs T))):
  o.wp P a w (fun a' w'=> ∃v,a'=a.put o.dst v/\(o.dst=none->v=undef)/\S v w'/\Below w.heap.size w w') Q:=by
 have hr:(execOp a.eval o).run P w=.ok (.value (.pointer (some ⟨w.heap.size,0,none⟩))) (w.alloc (.cells cs T)):=by
  unfold execOp;simp only [ho,hx];simp [newVar,newRow,hne,Value.cells,go_sem]
 unfold Oper.wp;rw [hr];exact ⟨_,rfl,fun h=> absurd h hd,hs,(bM _ _).alloc (bB _) _⟩
end
def Oc (A P U:Nat->Int):Array Value:=(vals .u8 32 A++(vals .u8 32 P++(vals .u8 32 U++ [Value.bool true]))).toArray
theorem aam (A P U:Nat->Int) {i:Nat} (h:i<32):(Oc A P U)[i]? =some (.int .u8 (A i)):=by
 unfold Oc;rw [List.getElem?_toArray,Lj (by simpa using h),dh h]
theorem afb (A P U:Nat->Int) {i:Nat} (h:i<32):(Oc A P U)[32+i]? =some (.int .u8 (P i)):=by
 unfold Oc;rw [List.getElem?_toArray,He (by simp),dn,Lj (by simp;omega),show 32+i - 32=i by omega,dh h]
theorem aal (A P U:Nat->Int) {i:Nat} (h:i<32):(Oc A P U)[64+i]? =some (.int .u8 (U i)):=by
 unfold Oc;rw [List.getElem?_toArray,He (by simp;omega),dn,He (by simp;omega),dn,Lj (by simp;omega),show 64+i - 32 - 32=i by omega,dh h]
theorem abF (A P U:Nat->Int):(Oc A P U)[96]? =some (.bool true):=by
 unfold Oc;rw [List.getElem?_toArray,He (by simp),dn,He (by simp),dn,He (by simp),dn]
 rfl
def wE (w:World) (v:Value) (A P U:Nat->Int):Prop:=∃b,v=.pointer (some ⟨b,0,none⟩)/\xO w b (Oc A P U)
theorem wE.below {w w':World} {v:Value} {A P U:Nat->Int} (h:wE w v A P U) (hb:Below w.heap.size w w'):wE w' v A P U:=by
 obtain ⟨b,e,h⟩:=h;exact ⟨b,e,h.kept hb⟩
theorem xO.afe {w:World} {b:Nat} {A P U:Nat->Int} (h:xO w b (Oc A P U)):Rd .u8 w (.slice (some ⟨b,0,none⟩) 32 32) 32 A/\Rd .u8 w (.slice (some ⟨b,32,none⟩) 32 32) 32 P/\Rd .u8 w (.slice (some ⟨b,64,none⟩) 32 32) 32 U:=
 ⟨⟨_,_,rfl,bB _,by decide,(fun h=> by cases h),fun _=> ⟨b,0,rfl,h.lt,fun i hi=> by rw [pF];exact h.cell i (aam A P U hi)⟩⟩,
  ⟨_,_,rfl,bB _,by decide,(fun h=> by cases h),fun _=> ⟨b,32,rfl,h.lt,fun i hi=> h.cell (32+i) (afb A P U hi)⟩⟩,
  ⟨_,_,rfl,bB _,by decide,(fun h=> by cases h),fun _=> ⟨b,64,rfl,h.lt,fun i hi=> h.cell (64+i) (aal A P U hi)⟩⟩⟩
theorem YJ {w w':World} {v u:Value} {n m:Nat} {f g:Nat->Int} {T:TypeId} (h:Rd .u8 w v n f) (h':Rd .u8 w u m g) (hb:Below w.heap.size w w'):
  nH (w'.alloc (.cells [v,u].toArray T)) (.slice (some ⟨w'.heap.size,0,none⟩) 2 2) 2 (iB 1 (fun _=> n) (fun _=> m)) (iZ 1 (fun _=> f) (fun _=> g)):=
 nH.new (by decide) fun j hj=> by
  rcases (by omega:j=0\/j=1) with rfl | rfl
  ·exact ⟨v,rfl,h.below hb⟩
  ·exact ⟨u,rfl,h'.below hb⟩
def wH (w:World) (v:Value) (T:TypeId) (n:Nat) (cs:Array Value):Prop:=∃b,v=.slice (some ⟨b,0,none⟩) n n/\w.heap[b]? =some (.cells cs T (0,0))
theorem wH.aav {Ts:List TypeId} {w w':World} {v:Value} {T:TypeId} {n:Nat} {cs:Array Value} (hT:Ts.contains T=false) (h:wH w v T n cs) (hk:rO Ts w w'):wH w' v T n cs:=by
 obtain ⟨b,e,h⟩:=h;exact ⟨b,e,hk b cs T hT h⟩
theorem wH.aeU {w:World} {v v1 v2 v3:Value} {T:TypeId} {n m k:Nat} {f g e:Nat->Int} (h:wH w v T 3 [v1,v2,v3].toArray) (h1:Rd .u8 w v1 n f) (h2:Rd .u8 w v2 m g) (h3:Rd .u8 w v3 k e):
  nH w v 3 (iB 1 (fun _=> n) (iB 1 (fun _=> m) (fun _=> k))) (iZ 1 (fun _=> f) (iZ 1 (fun _=> g) (fun _=> e))):=by
 obtain ⟨b,rfl,h⟩:=h;refine ⟨_,_,rfl,bB _,by decide,fun _=> ⟨b,0,rfl,(Array.getElem?_eq_some_iff.1 h).1,fun j hj=> ?_⟩⟩;rw [pF,cell_of_row _ _ _ _ T (0,0) h];rcases (by omega:j=0\/j=1\/j=2) with rfl | rfl | rfl
 ·exact ⟨v1,rfl,h1⟩
 ·exact ⟨v2,rfl,h2⟩
 ·exact ⟨v3,rfl,h3⟩
theorem Vf {f g:Nat->Int}:∀i,i<64->laid (laid (fun _=> 0) 0 32 f) 32 32 g i=fH 32 f g i:=by
 intro i hi;unfold laid fH;by_cases h:i<32
 ·rw [if_neg (by omega),if_pos (by omega),if_pos h,Nat.sub_zero]
 ·rw [if_pos (by omega),if_neg h]
end Go.bI
namespace Go.bI
theorem TJ {X Y:Int} (h0:0<=X) (h1:X<256 ^ 32) (h2:0<=Y) (h3:Y<256 ^ 32):jk 32 (dg 256 X) (dg 256 Y)=decide (X=Y):=by
 by_cases h:X=Y
 ·rw [h,decide_eq_true rfl];exact mO
 ·rw [decide_eq_false h];refine ow fun e=> h ?_;have h4:=gB (B:=256) (n:=32) e
  rwa [jF (by decide),jF (by decide),sS h0 h1,sS h2 h3] at h4
end Go.bI
namespace Go.Proofs.YtpcjekgfnfjbpaaGreat
open Go.RowKit Go.bI
attribute [local go_sem ↓] Go.wp_at_zero Go.wp_at_succ
theorem Tp (v:Value) (n:Nat) (f:Nat->Int) (w:World) (hv:nH w v 1 (fun _=> n) (fun _=> f)) (hn:n<=1000000) (hf:∀i,i<n->0<=f i/\f i<256):
  Calls Tryz.prog 139 #[v] w fun e w'=> e=.returned (.agg (arr .u8 64 (mK n f)))/\Below w.heap.size w w':=
 zm v 1 _ _ n f w hv (sQ (f:=f) (n:=n)).1 (sQ (f:=f) (n:=n)).2 hn hf
end Go.Proofs.YtpcjekgfnfjbpaaGreat
namespace Go.Proofs.YtpcjekgfnfjbpaaGreat
open Go.RowKit Go.bI Go.ChangeShapes
attribute [local go_sem ↓] Go.wp_at_zero Go.wp_at_succ
def CP (n:Nat) (f:Nat->Int):Nat:=(sm 256 (mK n f) 64 % Q).toNat
theorem Ef (n:Nat) (f:Nat->Int):((CP n f:Nat):Int)=sm 256 (mK n f) 64 % Q:=Int.toNat_of_nonneg (Int.emod_nonneg _ (by decide))
theorem FW (n:Nat) (f:Nat->Int):CP n f<iW:=by
 have h:=Ef n f;have h2:=BI (sm 256 (mK n f) 64) (show (0:Int)<Q by decide);have h3:Q=(iW:Int):=by decide
 omega
theorem vC (v:Value) (m:Nat) (lens:Nat->Nat) (g:Nat->Nat->Int) (n:Nat) (f:Nat->Int) (w:World) (hv:nH w v m lens g) (hg:∀j,j<m->∀i,i<lens j->f (dw lens j+i)=g j i) (hn:dw lens m=n) (hn2:n<=1000000) (hf:∀i,i<n->0<=f i/\f i<256):
  Calls Tryz.prog 156 #[v] w fun e w'=> e=.returned (.agg (arr .u8 32 (dg 256 ((CP n f:Nat):Int))))/\Below w.heap.size w w':=by
 obtain ⟨SB,XC⟩:∃SB,SB=mK n f:=⟨_,rfl⟩
 have HS:=ak (fun w' (h:nH w' v m lens g)=> zm v m lens g n f w' h hg hn hn2 hf);have HV:=ak hv;have Lc:Hid (∀w u,Rd .u8 w u 64 SB->Calls Tryz.prog 216 #[u] w fun e w'=> e=.returned (.tuple #[.agg (arr .u8 32 (dg 256 ((CP n f:Nat):Int))),.int .i64 0])/\Below w.heap.size w w'):=fun w u hu=> by
  have h:=ahh u 64 SB w hu (fun i _=> by rw [XC];exact kR n f i) (by decide);rw [Ef,←XC];exact h
 obtain ⟨R,hR⟩:∃R,R=CP n f:=⟨_,rfl⟩
 rw [<-hR] at Lc ⊢;rw [<-XC] at HS;clear XC hR hg hn hn2 hf hv
 go_enter Tryz.func156,Tryz.ntmps156
 go_upto_region 1 with (fail);refine aG (fun w1=> aH .u8 w1 w.heap.size 32 (fun _=> 0)/\Below w.heap.size w w1) ⟨bG rfl (by rfl),(bM _ _).alloc (bB _) _⟩ ?_;rintro w1 ⟨hZ,hbel⟩;have hz1:=hZ.lt
 refine aT (n:=14) (by kernel_rfl) (by kernel_rfl) (by kernel_rfl) rfl
  (gJ [(3,2)]) (dS [(3,2)]) (fun _=> arr .u8 64 (fun _=> 0)) (fun _=> (arr .u8 64 (SB))) (fun _=> 47) (fun _=> 3)
  (fun ii vv _=> (match ii with | 0=> vv=v | 1=> vv=.agg (arr .u8 64 (SB)) | _=> True)) (fun _ _=> True) (fun _ _ _=> trivial) (fun _ _ _ _ _ _ _=> trivial) (fun _ _ _ _ h _=> h)
  (eT rfl) (dA rfl) ?_ ?_ ?_ ?_
 ·refine bQ ?_;refine ⟨?_,?_,(fun h=> by cases h),(fun _ h=> by cases h),trivial⟩
  ·intro _ _ a w2 hB hF hd;exact aJ <| fq rfl (hF.same 0 rfl)
  ·intro _ _ a w2 hB hF hd;refine aJ <| aD _ _ _ rfl Tryz.call139 _ (args1 (hd 0 _ rfl rfl rfl (aj rfl))) (by simp) ((HS.out _ (HV.out.below (hbel.trans (hB.mono hbel.size)))).mono ?_);rintro e w3 ⟨rfl,hb⟩;exact ⟨_,rfl,rfl,hb⟩
 ·refine bQ ?_;refine ⟨(fun h=> by cases h),(fun h=> by cases h),?_,(fun h=> by cases h),trivial⟩
  ·exact fun _=> ⟨rfl,rfl,fun a w2 K h=> aP rfl rfl Tryz.zeroValue47 (by simp) h⟩
 ·refine bQ ?_;refine ⟨(fun _ h=> by cases h),(fun _ h=> by cases h),(fun _ h=> by cases h),?_,trivial⟩
  ·intro p hp;obtain rfl:2=p:=fT hp;exact ⟨rfl,rfl,⟨_,rfl⟩,aj rfl,fun a w2 b K hB hF hd hx hb h=> aY rfl rfl Cb hx (hd 1 _ rfl rfl rfl (aj rfl)) hb h⟩
 ·intro a w2 blk hB hF hS hv hfin bU;obtain ⟨v2,Sd,v2u⟩:=hv 2 _ rfl rfl;have ha:=aI rfl rfl hF [_,_,_,undef] rfl ⟨hS 0 _ rfl rfl rfl,hS 1 _ rfl rfl rfl,v2,trivial,trivial⟩;have f2:=hfin 3 _ 2 rfl rfl;simp only [puts,Act.put,dH,dI,dJ] at ha;subst ha;have V2:aH .u8 w2 (blk 2) 64 (SB):=⟨_,f2⟩
  clear hS hv hfin bU hF v2 f2;replace hZ:=hZ.kept hB;replace hbel:=hbel.trans (hB.mono hbel.size);obtain ⟨q,hq⟩:∃q,q=blk 2:=⟨_,rfl⟩
  rw [<-hq] at V2 Sd ⊢;have h3:=V2;have hl3:=h3.lt;have Vq:w.heap.size<q:=by omega
  clear hq hB V2 Sd v2u hz1;go_upto_region 2 with (fail)
  refine aT (n:=14) (by kernel_rfl) (by kernel_rfl) (by kernel_rfl) rfl
   (gJ [(6,5)]) (dS [(6,5)]) (fun _=> arr .u8 32 (fun _=> 0)) (fun _=> (arr .u8 32 (dg 256 (R:Int)))) (fun _=> 22) (fun _=> 4)
   (fun ii vv _=> (match ii with | 0=> vv=.slice (some ⟨q,0,none⟩) 64 64 | 1 | 2=> vv=.tuple #[.agg (arr .u8 32 (dg 256 (R:Int))),.int .i64 (0)] | 3=> vv=.agg (arr .u8 32 (dg 256 (R:Int))) | 4 | 7=> vv=.int .i64 (0) | _=> True)) (fun _ _=> True) (fun _ _ _=> trivial) (fun _ _ _ _ _ _ _=> trivial) (fun _ _ _ _ h _=> h)
   (eT rfl) (dA rfl) ?_ ?_ ?_ ?_
  ·refine bQ ?_;refine ⟨?_,?_,?_,?_,?_,(fun h=> by cases h),(fun _ h=> by cases h),?_,trivial⟩
   ·intro _ _ a w2 hB hF hd;exact aJ <| aO (cK rfl (hF.same 3 rfl) Dh (by kernel_rfl)) rfl
   ·intro _ _ a w2 hB hF hd;refine aJ <| aD _ _ _ rfl Tryz.call216 _ (args1 (hd 0 _ rfl rfl rfl (aj rfl))) (by simp) ((Lc.out w2 _ ((h3.kept hB).rd (by decide))).mono ?_);rintro e w3 ⟨rfl,hb⟩;exact ⟨_,rfl,rfl,hb⟩
   ·intro _ _ a w2 hB hF hd;exact aJ <| fq rfl (hd 1 _ rfl rfl rfl (aj rfl))
   ·intro _ _ a w2 hB hF hd;exact aJ <| aO (bD rfl (hd 2 _ rfl rfl rfl (aj rfl)) rfl) rfl
   ·intro _ _ a w2 hB hF hd;exact aJ <| aO (bD rfl (hd 2 _ rfl rfl rfl (aj rfl)) rfl) rfl
   ·intro _ _ a w2 hB hF hd;exact aJ <| pE rfl (hd 4 _ rfl rfl rfl (aj rfl))
  ·refine bQ ?_;refine ⟨(fun h=> by cases h),(fun h=> by cases h),(fun h=> by cases h),(fun h=> by cases h),(fun h=> by cases h),?_,(fun h=> by cases h),(fun h=> by cases h),trivial⟩
   ·exact fun _=> ⟨rfl,rfl,fun a w2 K h=> aP rfl rfl Tryz.zeroValue22 (by simp) h⟩
  ·refine bQ ?_;refine ⟨(fun _ h=> by cases h),(fun _ h=> by cases h),(fun _ h=> by cases h),(fun _ h=> by cases h),(fun _ h=> by cases h),(fun _ h=> by cases h),?_,(fun _ h=> by cases h),trivial⟩
   ·intro p hp;obtain rfl:5=p:=fT hp;exact ⟨rfl,rfl,⟨_,rfl⟩,aj rfl,fun a w2 b K hB hF hd hx hb h=> aY rfl rfl dz hx (hd 3 _ rfl rfl rfl (aj rfl)) hb h⟩
  ·intro a w4 blk hB hF hS hv hfin bU;obtain ⟨v5,uU,Dl⟩:=hv 5 _ rfl rfl;have ha:=aI rfl rfl hF [_,_,_,_,_,_,undef,_] rfl ⟨hS 0 _ rfl rfl rfl,hS 1 _ rfl rfl rfl,hS 2 _ rfl rfl rfl,hS 3 _ rfl rfl rfl,hS 4 _ rfl rfl rfl,v5,trivial,hS 7 _ rfl rfl rfl,trivial⟩;have f5:=hfin 6 _ 5 rfl rfl;simp only [puts,Act.put,dH,dI,dJ] at ha;subst ha;have V5:aH .u8 w4 (blk 5) 32 (dg 256 (R:Int)):=⟨_,f5⟩
   clear hS hv hfin bU hF v5 f5;replace hZ:=hZ.kept hB;replace hbel:=hbel.trans (hB.mono hbel.size);obtain ⟨x4,e4⟩:∃x,x=blk 5:=⟨_,rfl⟩
   rw [<-e4] at V5 ⊢;have h4:=V5;clear e4 hB V5 uU Dl h3
   go_wp2_with (first
    | (refine aM rfl 22 _ rfl .u8 x4 32 (dg 256 (R:Int)) 5 dU dz rfl h4 ?_)
    | (refine aF rfl 22 _ _ rfl .u8 w.heap.size 32 (fun _=> 0) (dg 256 (R:Int)) dz rfl rfl hZ ?_))
   exact bodyPost_ret (aZ rfl _ _ .u8 w.heap.size 32 _ 5 rfl (hZ.setRow _ _) dU dz) rfl ⟨rfl,aA hbel (bB _) _⟩
theorem abG (v:Value) (n1 n2:Nat) (f1 f2:Nat->Int) (w:World) (hv:nH w v 2 (iB 1 (fun _=> n1) (fun _=> n2)) (iZ 1 (fun _=> f1) (fun _=> f2))) (hl:n1+n2<=1000000) (h1:∀i,i<n1->0<=f1 i/\f1 i<256) (h2:∀i,i<n2->0<=f2 i/\f2 i<256):
  Calls Tryz.prog 156 #[v] w fun e w'=> e=.returned (.agg (arr .u8 32 (dg 256 ((CP (n1+n2) (fH n1 f1 f2):Nat):Int))))/\Below w.heap.size w w':=by
 have e1:dw (fun _=> n1) 1=n1:=by simp [dw]
 have e2:dw (fun _=> n2) 1=n2:=by simp [dw]
 have h:=kU (F1:=f1) (F2:=f2) (sQ (f:=f1) (n:=n1)).1 (sQ (f:=f2) (n:=n2)).1;rw [e1] at h;exact vC v (1+1) _ _ (n1+n2) _ w hv h (by rw [lF,e1,e2]) hl (gy h1 h2)
theorem TB (v:Value) (n1 n2 n3:Nat) (f1 f2 f3:Nat->Int) (w:World) (hv:nH w v 3 (iB 1 (fun _=> n1) (iB 1 (fun _=> n2) (fun _=> n3))) (iZ 1 (fun _=> f1) (iZ 1 (fun _=> f2) (fun _=> f3)))) (hl:n1+(n2+n3)<=1000000) (h1:∀i,i<n1->0<=f1 i/\f1 i<256) (h2:∀i,i<n2->0<=f2 i/\f2 i<256) (h3:∀i,i<n3->0<=f3 i/\f3 i<256):
  Calls Tryz.prog 156 #[v] w fun e w'=> e=.returned (.agg (arr .u8 32 (dg 256 ((CP (n1+(n2+n3)) (fH n1 f1 (fH n2 f2 f3)):Nat):Int))))/\Below w.heap.size w w':=by
 have e1:dw (fun _=> n1) 1=n1:=by simp [dw]
 have e2:dw (fun _=> n2) 1=n2:=by simp [dw]
 have e3:dw (fun _=> n3) 1=n3:=by simp [dw]
 have h:=kU (F1:=f2) (F2:=f3) (sQ (f:=f2) (n:=n2)).1 (sQ (f:=f3) (n:=n3)).1;rw [e2] at h;have hh:=kU (F1:=f1) (sQ (f:=f1) (n:=n1)).1 h;rw [e1] at hh;exact vC v (1+(1+1)) _ _ (n1+(n2+n3)) _ w hv hh (by rw [lF,lF,e1,e2,e3]) hl (gy h1 (gy h2 h3))
def TD (S:Int):Nat->Int:=mK 32 (dg 256 S)
def PS (S:Int):Nat:=(eD (sm 256 (TD S) 32)).toNat
def TH (S:Int) (i:Nat):Int:=TD S (32+i)
noncomputable def Hr (S:Int):Int:=dB (Bp.mul (PS S))
theorem KG (X:Int):0<=eD X/\eD X<2 ^ 256:=by unfold eD;omega
theorem IU (S:Int):((PS S:Nat):Int)=eD (sm 256 (TD S) 32):=Int.toNat_of_nonneg (KG _).1
theorem TI (S:Int):PS S<2 ^ 256:=by have:=IU S;have:=KG (sm 256 (TD S) 32);omega
theorem afc (S:Int) (i:Nat):0<=TH S i/\TH S i<256:=kR _ _ _
theorem WQ (A P U:Nat->Int) (w:World):(Instr.build 244 #[(0,.agg (arr .u8 32 A)),(1,.agg (arr .u8 32 P)),(2,.agg (arr .u8 32 U)),(3,.bool true)]).run Tryz.prog w=.ok (.agg (Oc A P U)) w:=
 Go.run_build w _ _ (Oc A P U) (by kernel_rfl)
theorem DL (S:Int) (w:World):Calls Tryz.prog 143 #[.agg (arr .u8 32 (dg 256 S))] w fun e w'=> ∃r,e=.returned r/\wE w' r (dg 256 ((PS S:Nat):Int)) (TH S) (dg 256 (Hr S))/\Below w.heap.size w w':=by
 have HSD:Hid (∀i,TH S i=TD S (32+i)):=fun _=> rfl;have ZR:Hid (Hr S=dB (Bp.mul (PS S))):=rfl
 have HS:Hid (∀w v,nH w v 1 (fun _=> 32) (fun _=> dg 256 S)->Calls Tryz.prog 139 #[v] w fun e w'=> e=.returned (.agg (arr .u8 64 (TD S)))/\Below w.heap.size w w'):=fun w v h=>
  zm v 1 _ _ 32 (dg 256 S) w h (sQ (f:=dg 256 S) (n:=32)).1 (sQ (f:=dg 256 S) (n:=32)).2 (by decide) (fun i _=> aX (by decide) _ _)
 have Sv:Hid (∀w,Calls Tryz.prog 198 #[.agg (arr .u8 32 (TD S))] w fun e w'=> e=.returned (.agg (arr .u8 32 (dg 256 ((PS S:Nat):Int))))/\Below w.heap.size w w'):=fun w=> by
  rw [IU,show arr .u8 32 (TD S)=arr .u8 32 (dg 256 (sm 256 (TD S) 32)) from eF fun i hi=> (rF (f:=TD S) (by decide) (fun i _=> kR 32 (dg 256 S) i) i hi).symm];exact yC _ w
 have HAL:=ak (TI S);have HBF:=ak FP;have ZV:=ak (fun w=> Ap w);obtain ⟨F,hF⟩:∃F,F=Bv:=⟨_,rfl⟩
 rw [<-hF] at HBF ZV;obtain ⟨SB,XC⟩:∃SB,SB=TD S:=⟨_,rfl⟩
 rw [<-XC] at HS Sv HSD;obtain ⟨A,hA⟩:∃A,A=PS S:=⟨_,rfl⟩
 rw [<-hA] at Sv ZR HAL ⊢;obtain ⟨U,hU⟩:∃U,U=Hr S:=⟨_,rfl⟩
 rw [<-hU] at ZR ⊢;obtain ⟨PF,hPF⟩:∃PF,PF=TH S:=⟨_,rfl⟩
 rw [<-hPF] at HSD ⊢;clear XC hA hF hU hPF
 go_enter Tryz.func143,Tryz.ntmps143
 go_upto_region 1 with (fail);refine aG (fun w1=> aH .u8 w1 w.heap.size 32 (dg 256 S)/\Below w.heap.size w w1) ⟨bG rfl rfl,(bM _ _).alloc (bB _) _⟩ ?_;rintro w1 ⟨h1,hbel⟩;have hl1:=h1.lt;go_wp2_with fail;refine (HS.out _ _ (by simpa using new1 (T:=23) (h1.rd (by decide)) (bM _ _))).mono ?_;rintro e w2 ⟨rfl,hb2⟩;replace hbel:=(hbel.alloc hbel.size _).trans (hb2.mono (by simp;omega));clear hb2 h1;have hsz:=hbel.size;go_upto_region 2 with (refine aF rfl 47 _ _ rfl .u8 w2.heap.size 64 (fun _=> 0) SB Cb rfl rfl (bG rfl (by rfl)) ?_);refine aG (fun w3=> aH .u8 w3 w2.heap.size 64 SB/\Below w.heap.size w w3) ⟨(bG rfl (by rfl):aH .u8 _ _ 64 (fun _=> 0)).setRow _ _,aA (hbel.alloc hbel.size _) hbel.size _⟩ ?_;rintro w3 ⟨h3,hb3⟩;obtain ⟨q,hq⟩:∃q,q=w2.heap.size:=⟨_,rfl⟩
 rw [<-hq] at h3 hsz ⊢;have Vq:=h3.lt;replace hbel:=hb3;have HC3:Hid (∀i,i<32->w3.cell? ⟨q,0+i,none⟩=some (.int .u8 (SB i))):=fun i hi=> by rw [pF,h3.cell i (by omega)]
 clear hq hb3
 try simp only [Act.put,dH,dI,dJ]
 refine aT (n:=22) (by kernel_rfl) (by kernel_rfl) (by kernel_rfl) rfl
  (gJ [(5,4)]) (dS [(5,4)]) (fun _=> arr .u8 32 (fun _=> 0)) (fun _=> (arr .u8 32 (dg 256 (A:Int)))) (fun _=> 22) (fun _=> 4)
  (fun ii vv _=> (match ii with | 0=> vv=.slice (some ⟨q,0,none⟩) 32 64 | 1=> vv=.pointer (some ⟨q,0,none⟩) | 2=> vv=.agg (arr .u8 32 (SB)) | 3=> vv=.agg (arr .u8 32 (dg 256 (A:Int))) | _=> True)) (fun _ _=> True) (fun _ _ _=> trivial) (fun _ _ _ _ _ _ _=> trivial) (fun _ _ _ _ h _=> h)
  (eT rfl) (dA rfl) ?_ ?_ ?_ ?_
 ·refine bQ ?_;refine ⟨?_,?_,?_,?_,(fun h=> by cases h),(fun _ h=> by cases h),trivial⟩
  ·intro _ _ a w2 hB hF hd;exact aJ <| aO (bP rfl (hF.same 3 rfl) (by simp only [Option.map_some,Option.map_none];exact gW (m:=32) Dh Ll (by decide))) rfl
  ·intro _ _ a w2 hB hF hd;exact aJ <| aO (gF rfl (hd 0 _ rfl rfl rfl (aj rfl)) dU (by decide)) rfl
  ·intro _ _ a w2 hB hF hd;exact aJ <| aO (fD rfl (hd 1 _ rfl rfl rfl (aj rfl)) dU dz (fun i hi=> (hB.cell (p:=⟨q,0+i,none⟩) Vq).trans (HC3.out i hi))) rfl
  ·intro _ _ a w2 hB hF hd;refine aJ <| aD _ _ _ rfl Tryz.call198 _ (args1 (hd 2 _ rfl rfl rfl (aj rfl))) (by simp) ((Sv.out w2).mono ?_);rintro e w3 ⟨rfl,hb⟩;exact ⟨_,rfl,rfl,hb⟩
 ·refine bQ ?_;refine ⟨(fun h=> by cases h),(fun h=> by cases h),(fun h=> by cases h),(fun h=> by cases h),?_,(fun h=> by cases h),trivial⟩
  ·exact fun _=> ⟨rfl,rfl,fun a w2 K h=> aP rfl rfl Tryz.zeroValue22 (by simp) h⟩
 ·refine bQ ?_;refine ⟨(fun _ h=> by cases h),(fun _ h=> by cases h),(fun _ h=> by cases h),(fun _ h=> by cases h),(fun _ h=> by cases h),?_,trivial⟩
  ·intro p hp;obtain rfl:4=p:=fT hp;exact ⟨rfl,rfl,⟨_,rfl⟩,aj rfl,fun a w2 b K hB hF hd hx hb h=> aY rfl rfl dz hx (hd 3 _ rfl rfl rfl (aj rfl)) hb h⟩
 ·intro a w4 blk hB hF hS hv hfin bU;obtain ⟨v4,Hq,LA⟩:=hv 4 _ rfl rfl;have ha:=aI rfl rfl hF [_,_,_,_,_,undef] rfl ⟨hS 0 _ rfl rfl rfl,hS 1 _ rfl rfl rfl,hS 2 _ rfl rfl rfl,hS 3 _ rfl rfl rfl,v4,trivial,trivial⟩;have f4:=hfin 5 _ 4 rfl rfl;simp only [puts,Act.put,dH,dI,dJ] at ha;subst ha;have V4:aH .u8 w4 (blk 4) 32 (dg 256 (A:Int)):=⟨_,f4⟩
  clear hS hv hfin bU hF v4 f4;replace h3:=h3.kept hB;replace hbel:=hbel.trans (hB.mono hbel.size);obtain ⟨x4,e4⟩:∃x,x=blk 4:=⟨_,rfl⟩
  rw [<-e4] at V4 ⊢;have h4:=V4;have hq4:=h3.lt;have HC4:Hid (∀i,i<32->w4.cell? ⟨q,32+i,none⟩=some (.int .u8 (PF i))):=fun i hi=> by rw [HSD.out];exact h3.cell (32+i) (by omega)
  clear e4 hB V4 Hq LA Vq HC3;go_upto_region 3 with (fail)
  refine aR (n:=22) (by kernel_rfl) (by kernel_rfl) (by kernel_rfl) rfl
   (fun ii vv ww=> (match ii with | 0 | 5=> vv=.agg (arr .u8 32 (dg 256 (A:Int))) | 1=> vv=.slice (some ⟨q,32,none⟩) (64 - 32) (64 - 32) | 2=> vv=.pointer (some ⟨q,32,none⟩) | 3=> vv=.agg (arr .u8 32 (PF)) | 4=> vv=.agg (arr .i64 64 (F)) | 7=> vv=.agg (arr .u8 32 (dg 256 (dB (Bp.mul A)))) | 8=> vv=.agg (Oc (dg 256 (A:Int)) (PF) (dg 256 (dB (Bp.mul A)))) | _=> True)/\(ii=6->tu vv (Bp.mul A))/\(ii=9->wE ww vv (dg 256 (A:Int)) PF (dg 256 (dB (Bp.mul A))))/\(ii=10->wE ww vv (dg 256 (A:Int)) PF (dg 256 (dB (Bp.mul A)))))
   (fun w w'=> Below w.heap.size w w') (fun _ _ h=> h) (fun i v w w' h hE=> ⟨h.1,fun e=> tu.keep (h.2.1 e) hE,fun e=> wE.below (h.2.2.1 e) hE,fun e=> wE.below (h.2.2.2 e) hE⟩) ?_ ?_
  ·refine bQ ?_;refine ⟨?_,?_,?_,?_,?_,?_,?_,?_,?_,?_,?_,trivial⟩
   ·intro a w2 hB hF hd;exact aJ <| aO (aB rfl dU rfl dz (hF.same 4 rfl) (h4.below hB h4.lt)) ⟨rfl,aK,aK,aK⟩
   ·intro a w2 hB hF hd;exact aJ <| aO (bP rfl (hF.same 3 rfl) (by simp only [Option.map_some,Option.map_none];exact nL (m:=32) Dh Ll (by decide))) ⟨rfl,aK,aK,aK⟩
   ·intro a w2 hB hF hd;exact aJ <| aO (gF rfl ((hd 1 _ rfl (aj rfl)).1) dU (by decide)) ⟨rfl,aK,aK,aK⟩
   ·intro a w2 hB hF hd;exact aJ <| aO (fD rfl ((hd 2 _ rfl (aj rfl)).1) dU dz (fun i hi=> (hB.cell (p:=⟨q,32+i,none⟩) hq4).trans (HC4.out i hi))) ⟨rfl,aK,aK,aK⟩
   ·intro a w2 hB hF hd;refine aJ <| aD _ _ _ rfl Tryz.call157 _ pz (by simp) ((ZV.out w2).mono ?_);rintro e w3 ⟨rfl,hb⟩;exact ⟨_,rfl,⟨rfl,aK,aK,aK⟩,hb⟩
   ·intro a w2 hB hF hd;exact aJ <| aO (aB rfl dU rfl dz (hF.same 4 rfl) (h4.below hB h4.lt)) ⟨rfl,aK,aK,aK⟩
   ·intro a w2 hB hF hd;refine aJ <| aD _ _ _ rfl Tryz.call158 _ (args2 ((hd 4 _ rfl (aj rfl)).1) ((hd 5 _ rfl (aj rfl)).1)) (by simp) ((DV A HAL.out w2 ⟨_,rfl,HBF.out⟩).mono ?_);rintro e w3 ⟨u,rfl,hr,hb⟩;exact ⟨u,rfl,⟨trivial,fun _=> hr,aK,aK⟩,hb⟩
   ·intro a w2 hB hF hd;refine aJ <| aD _ _ _ rfl Tryz.call161 _ (args1 rfl) (by simp) ((zx w2 ((hd 6 _ rfl (aj rfl)).2.1 rfl)).mono ?_);rintro e w3 ⟨rfl,hb⟩;exact ⟨_,rfl,⟨rfl,aK,aK,aK⟩,hb⟩
   ·intro a w2 hB hF hd;exact aJ <| aO (dL rfl (by simp only [uG,List.map_cons,List.map_nil,show a.eval (Operand.tmp 12)=.agg (arr .u8 32 (dg 256 (A:Int))) from ((hd 0 _ rfl (aj rfl)).1),show a.eval (Operand.tmp 15)=.agg (arr .u8 32 (PF)) from ((hd 3 _ rfl (aj rfl)).1),show a.eval (Operand.tmp 19)=.agg (arr .u8 32 (dg 256 (dB (Bp.mul A)))) from ((hd 7 _ rfl (aj rfl)).1)];exact WQ _ _ _ _)) ⟨rfl,aK,aK,aK⟩
   ·intro a w2 hB hF hd;refine aJ <| VU rfl ((hd 8 _ rfl (aj rfl)).1) (by unfold Oc;simp) (by simp) ?_;exact ⟨trivial,aK,fun _=> (⟨_,rfl,xO.newAt rfl⟩),aK⟩
   ·intro a w2 hB hF hd;exact aJ <| pE rfl ⟨trivial,aK,aK,fun _=> ((hd 9 _ rfl (aj rfl)).2.2.1 rfl)⟩
  ·intro a w5 hB hF hS;obtain ⟨x18,acA⟩:∃x,x=a.tmps.getD 18 undef:=⟨_,rfl⟩
   have P18:tu x18 (Bp.mul A):=by rw [acA];exact (hS 6 _ rfl).2.1 rfl
   obtain ⟨x21,acz⟩:∃x,x=a.tmps.getD 21 undef:=⟨_,rfl⟩
   have P21:wE w5 x21 (dg 256 (A:Int)) PF (dg 256 (dB (Bp.mul A))):=by rw [acz];exact (hS 9 _ rfl).2.2.1 rfl
   obtain ⟨x2,hx2⟩:∃x,x=a.tmps.getD 2 undef:=⟨_,rfl⟩
   have P2:wE w5 x2 (dg 256 (A:Int)) PF (dg 256 (dB (Bp.mul A))):=by rw [hx2];exact (hS 10 _ rfl).2.2.2 rfl
   have ha:=aI rfl rfl hF [_,_,_,_,_,_,x18,_,_,x21,x2] rfl ⟨(hS 0 _ rfl).1,(hS 1 _ rfl).1,(hS 2 _ rfl).1,(hS 3 _ rfl).1,(hS 4 _ rfl).1,(hS 5 _ rfl).1,acA.symm,(hS 7 _ rfl).1,(hS 8 _ rfl).1,acz.symm,hx2.symm,trivial⟩;simp only [puts,Act.put,dH,dI,dJ] at ha;subst ha;clear acA acz hx2;clear hS hF;have hb5:=hbel.trans (hB.mono hbel.size);rw [<-ZR.out] at P2;go_wp2;go_ret;exact ⟨_,rfl,P2,hb5⟩
theorem Ab {v:Value} {A P U:Nat->Int} (w:World) (h:wE w v A P U):Calls Tryz.prog 206 #[v] w fun e w'=> e=.returned (.bool true)/\Below w.heap.size w w':=by
 obtain ⟨b,rfl,h⟩:=h;have e96:=h.cell 96 (abF A P U);clear h
 go_enter Tryz.func206,Tryz.ntmps206
 go_wp2;go_ret;exact ⟨rfl,bM _ _⟩
theorem Cy {v:Value} {A P U:Nat->Int} (w:World) (h:wE w v A P U):Calls Tryz.prog 144 #[v] w fun e w'=> e=.returned (.tuple #[.agg (arr .u8 32 U),.int .i64 0])/\Below w.heap.size w w':=by
 have HM:=ak (fun w h=> Ab (v:=v) (A:=A) (P:=P) (U:=U) w h);obtain ⟨b,rfl,h⟩:=h
 go_enter Tryz.func144,Tryz.ntmps144
 go_upto_region 1 with (fail);refine aG (fun w1=> aH .u8 w1 w.heap.size 32 (fun _=> 0)/\Below w.heap.size w w1) ⟨bG rfl (by rfl),(bM _ _).alloc (bB _) _⟩ ?_;rintro w1 ⟨hZ,hbel⟩;replace h:=h.kept hbel;go_wp2_with fail;refine (HM.out _ ⟨b,rfl,h⟩).mono ?_;rintro e w2 ⟨rfl,hb⟩;replace h:=h.kept hb;replace hZ:=hZ.kept hb;replace hbel:=hbel.trans (hb.mono hbel.size);clear hb
 go_wp2_with (first
  | (refine oG rfl 22 _ rfl .u8 b 64 32 U 5 dU dz rfl (fun i hi=> h.cell (64+i) (aal A P U hi)) ?_)
  | (refine aF rfl 22 _ _ rfl .u8 w.heap.size 32 (fun _=> 0) U dz rfl rfl hZ ?_))
 exact bodyPost_ret (eY rfl _ _ .u8 w.heap.size 32 _ 5 rfl (hZ.setRow _ _) dU dz) rfl ⟨rfl,aA hbel (bB _) _⟩
noncomputable def Cw (P f:Nat->Int) (n:Nat):Nat:=CP (32+n) (fH 32 P f)
noncomputable def Cx (P f:Nat->Int) (n:Nat):Int:=dB (Bp.mul (Cw P f n))
noncomputable def Fb (P U f:Nat->Int) (n:Nat):Nat:=CP (32+(32+n)) (fH 32 (dg 256 (Cx P f n)) (fH 32 U f))
noncomputable def Fa (A:Nat) (P U f:Nat->Int) (n:Nat):Nat:=(Fb P U f n * A % iW+Cw P f n) % iW
noncomputable def PL (A:Nat) (P U f:Nat->Int) (n:Nat):Nat->Int:=fH 32 (dg 256 (Cx P f n)) (dg 256 ((Fa A P U f n:Nat):Int))
theorem Xl:Q=(iW:Int):=by decide
theorem Ob (A:Nat) (P U f:Nat->Int) (n:Nat):Fa A P U f n<iW:=Nat.mod_lt _ (by decide)
theorem IL {v:Value} {A:Nat} {P U:Nat->Int} (t:Value) (n:Nat) (f:Nat->Int) (w:World) (h:wE w v (dg 256 (A:Int)) P U) (ht:Rd .u8 w t n f) (hA:A<2 ^ 256) (hn:n<=900000) (hP:∀i,i<32->0<=P i/\P i<256) (hU:∀i,i<32->0<=U i/\U i<256) (hf:∀i,i<n->0<=f i/\f i<256):
  Calls Tryz.prog 145 #[v,t] w fun e w'=> e=.returned (.tuple #[.agg (arr .u8 64 (PL A P U f n)),.int .i64 0])/\Below w.heap.size w w':=by
 have HM:=ak (fun w h=> Ab (v:=v) (A:=dg 256 (A:Int)) (P:=P) (U:=U) w h);have HN2:Hid (∀w v,nH w v 2 (iB 1 (fun _=> 32) (fun _=> n)) (iZ 1 (fun _=> P) (fun _=> f))->Calls Tryz.prog 156 #[v] w fun e w'=> e=.returned (.agg (arr .u8 32 (dg 256 ((Cw P f n:Nat):Int))))/\Below w.heap.size w w'):=fun w v h=> abG v 32 n P f w h (by omega) hP hf;have HN3:Hid (∀w v,nH w v 3 (iB 1 (fun _=> 32) (iB 1 (fun _=> 32) (fun _=> n))) (iZ 1 (fun _=> dg 256 (Cx P f n)) (iZ 1 (fun _=> U) (fun _=> f)))->Calls Tryz.prog 156 #[v] w fun e w'=> e=.returned (.agg (arr .u8 32 (dg 256 ((Fb P U f n:Nat):Int))))/\Below w.heap.size w w'):=fun w v h=> TB v 32 32 n _ U f w h (by omega) (fun i _=> aX (by decide) _ _) hU hf;have hlR:Cw P f n<iW:=FW _ _;have hlK:Fb P U f n<iW:=FW _ _;have ho:iW<2 ^ 256:=by decide
 have HMA:Hid (∀w,Calls Tryz.prog 207 #[.agg (arr .u8 32 (dg 256 ((Fb P U f n:Nat):Int))),.agg (arr .u8 32 (dg 256 (A:Int))),.agg (arr .u8 32 (dg 256 ((Cw P f n:Nat):Int)))] w fun e w'=> e=.returned (.agg (arr .u8 32 (dg 256 ((Fa A P U f n:Nat):Int))))/\Below w.heap.size w w'):=fun w=> by
  have h:=NP ((Fb P U f n:Nat):Int) (A:Int) ((Cw P f n:Nat):Int) w ⟨by omega,by omega⟩ ⟨by omega,by omega⟩ ⟨by omega,by omega⟩;unfold Fa;rw [Xl] at h
  rwa [Int.natCast_emod,Int.natCast_add,Int.natCast_emod,Int.natCast_mul]
 have HRL:Hid (Cw P f n<2 ^ 256):=Nat.lt_trans hlR ho;have HSF:Hid (Cx P f n=dB (Bp.mul (Cw P f n))):=rfl;have BN:Hid (PL A P U f n=fH 32 (dg 256 (Cx P f n)) (dg 256 ((Fa A P U f n:Nat):Int))):=rfl;obtain ⟨R,hR⟩:∃R,R=Cw P f n:=⟨_,rfl⟩
 rw [<-hR] at HN2 HMA HRL HSF;obtain ⟨FI,VJ⟩:∃FI,FI=Cx P f n:=⟨_,rfl⟩
 rw [<-VJ] at HN3 HSF BN;obtain ⟨K,hK⟩:∃K,K=Fb P U f n:=⟨_,rfl⟩
 rw [<-hK] at HN3 HMA;obtain ⟨S,hS⟩:∃S,S=Fa A P U f n:=⟨_,rfl⟩
 rw [<-hS] at HMA BN;rw [BN.out];have HBF:=ak FP;have ZV:=ak (fun w=> Ap w);obtain ⟨F,hF⟩:∃F,F=Bv:=⟨_,rfl⟩
 rw [<-hF] at HBF ZV;have HT:=ak ht;obtain ⟨tl,tn,tc,et⟩:=ht.isSlice;subst et;obtain ⟨b,rfl,h⟩:=h;clear hR VJ hK hS hF hlR hlK ho hn hA hP hU hf ht BN
 go_enter Tryz.func145,Tryz.ntmps145
 go_upto_region 1 with (fail);refine aG (fun w1=> aH .u8 w1 w.heap.size 64 (fun _=> 0)/\Below w.heap.size w w1) ⟨bG rfl (by rfl),(bM _ _).alloc (bB _) _⟩ ?_;rintro w1 ⟨hZ,hbel⟩;replace h:=h.kept hbel;replace HT:=ak (HT.out.below hbel);go_wp2_with fail;refine (HM.out _ ⟨b,rfl,h⟩).mono ?_;rintro e w2 ⟨rfl,hb⟩;replace h:=h.kept hb;replace HT:=ak (HT.out.below hb);replace hZ:=hZ.kept hb;replace hbel:=hbel.trans (hb.mono hbel.size);clear hb;go_wp2_with fail;refine (HN2.out _ _ (by simpa using YJ (T:=23) h.afe.2.1 HT.out (bM _ _))).mono ?_;rintro e w3 ⟨rfl,hb⟩;have hb3:Below w2.heap.size w2 w3:=((bM w2.heap.size w2).alloc (bB _) _).trans (hb.mono (by simp));replace h:=h.kept hb3;replace HT:=ak (HT.out.below hb3);replace hZ:=hZ.kept hb3;replace hbel:=hbel.trans (hb3.mono hbel.size);have hz3:=hZ.lt;clear hb hb3;go_upto_region 4 with (refine aF rfl 22 _ _ rfl .u8 w3.heap.size 32 (fun _=> 0) (dg 256 (R:Int)) dz rfl rfl (bG rfl (by rfl)) ?_);refine aG (fun w4=> aH .u8 w4 w3.heap.size 32 (dg 256 (R:Int))/\Below w3.heap.size w3 w4) ⟨(bG rfl (by rfl):aH .u8 _ _ 32 (fun _=> 0)).setRow _ _,aA ((bM _ _).alloc (bB _) _) (bB _) _⟩ ?_;rintro w4 ⟨h6,hb⟩;replace h:=h.kept hb;replace HT:=ak (HT.out.below hb);replace hZ:=hZ.kept hb;replace hbel:=hbel.trans (hb.mono hbel.size);obtain ⟨x6,e6⟩:∃x,x=w3.heap.size:=⟨_,rfl⟩
 rw [<-e6] at h6 hz3 ⊢;have hl6:=h6.lt;clear e6 hb
 try simp only [Act.put,dH,dI,dJ]
 refine aT (n:=48) (by kernel_rfl) (by kernel_rfl) (by kernel_rfl) rfl
  (gJ [(5,4)]) (dS [(5,4)]) (fun _=> arr .u8 32 (fun _=> 0)) (fun _=> (arr .u8 32 (dg 256 (dB (Bp.mul R))))) (fun _=> 22) (fun _=> 7)
  (fun ii vv ww=> (match ii with | 0=> vv=.agg (arr .i64 64 (F)) | 1=> vv=.agg (arr .u8 32 (dg 256 (R:Int))) | 3=> vv=.agg (arr .u8 32 (dg 256 (dB (Bp.mul R)))) | _=> True)/\(ii=2->tu vv (Bp.mul R))) (fun _ _=> True) (fun _ _ _=> trivial) (fun _ _ _ _ _ _ _=> trivial) (fun i v w w' h hE=> ⟨h.1,fun e=> tu.keep (h.2 e) hE⟩)
  (eT rfl) (dA rfl) ?_ ?_ ?_ ?_
 ·refine bQ ?_;refine ⟨?_,?_,?_,?_,(fun h=> by cases h),(fun _ h=> by cases h),trivial⟩
  ·intro _ _ a w2 hB hF hd;refine aJ <| aD _ _ _ rfl Tryz.call157 _ pz (by simp) ((ZV.out w2).mono ?_);rintro e w3 ⟨rfl,hb⟩;exact ⟨_,rfl,⟨rfl,aK⟩,hb⟩
  ·intro _ _ a w2 hB hF hd;exact aJ <| aO (aB rfl dU rfl dz (hF.same 6 rfl) (h6.below hB h6.lt)) ⟨rfl,aK⟩
  ·intro _ _ a w2 hB hF hd;refine aJ <| aD _ _ _ rfl Tryz.call158 _ (args2 ((hd 0 _ rfl rfl rfl (aj rfl)).1) ((hd 1 _ rfl rfl rfl (aj rfl)).1)) (by simp) ((DV R HRL.out w2 ⟨_,rfl,HBF.out⟩).mono ?_);rintro e w3 ⟨u,rfl,hr,hb⟩;exact ⟨u,rfl,⟨trivial,fun _=> hr⟩,hb⟩
  ·intro _ _ a w2 hB hF hd;refine aJ <| aD _ _ _ rfl Tryz.call161 _ (args1 rfl) (by simp) ((zx w2 ((hd 2 _ rfl rfl rfl (aj rfl)).2 rfl)).mono ?_);rintro e w3 ⟨rfl,hb⟩;exact ⟨_,rfl,⟨rfl,aK⟩,hb⟩
 ·refine bQ ?_;refine ⟨(fun h=> by cases h),(fun h=> by cases h),(fun h=> by cases h),(fun h=> by cases h),?_,(fun h=> by cases h),trivial⟩
  ·exact fun _=> ⟨rfl,rfl,fun a w2 K h=> aP rfl rfl Tryz.zeroValue22 (by simp) h⟩
 ·refine bQ ?_;refine ⟨(fun _ h=> by cases h),(fun _ h=> by cases h),(fun _ h=> by cases h),(fun _ h=> by cases h),(fun _ h=> by cases h),?_,trivial⟩
  ·intro p hp;obtain rfl:4=p:=fT hp;exact ⟨rfl,rfl,⟨_,rfl⟩,aj rfl,fun a w2 b K hB hF hd hx hb h=> aY rfl rfl dz hx ((hd 3 _ rfl rfl rfl (aj rfl)).1) hb h⟩
 ·intro a w5 blk hB hF hS hv hfin bU;obtain ⟨v4,Hq,LA⟩:=hv 4 _ rfl rfl;obtain ⟨x24,hx24⟩:∃x,x=a.tmps.getD 24 undef:=⟨_,rfl⟩
  have ha:=aI rfl rfl hF [_,_,x24,_,_,undef] rfl ⟨(hS 0 _ rfl rfl rfl).1,(hS 1 _ rfl rfl rfl).1,hx24.symm,(hS 3 _ rfl rfl rfl).1,v4,trivial,trivial⟩;have f4:=hfin 5 _ 4 rfl rfl;simp only [puts,Act.put,dH,dI,dJ] at ha;subst ha;clear hx24;have V4:aH .u8 w5 (blk 4) 32 (dg 256 (dB (Bp.mul R))):=⟨_,f4⟩
  clear hS hv hfin bU hF v4 f4;replace h:=h.kept hB;replace HT:=ak (HT.out.below hB);replace hZ:=hZ.kept hB;replace h6:=h6.kept hB;replace hbel:=hbel.trans (hB.mono hbel.size);obtain ⟨x7,e7⟩:∃x,x=blk 4:=⟨_,rfl⟩
  rw [<-e7] at V4 Hq ⊢;rw [<-HSF.out] at V4;have h7:=V4;have l7:x6<x7:=by omega
  have hl7:=h7.lt;clear e7 hB V4 Hq LA hl6;go_upto_region 5 with (fail)
  refine aT (n:=48) (by kernel_rfl) (by kernel_rfl) (by kernel_rfl) rfl
   (gJ [(9,8)]) (dS [(9,8)]) (fun _=> arr .u8 32 (fun _=> 0)) (fun _=> (arr .u8 32 (dg 256 (K:Int)))) (fun _=> 22) (fun _=> 8)
   (fun ii vv ww=> (match ii with | 0=> vv=.slice (some ⟨x7,0,none⟩) 32 32 | 1 | 2=> vv=.pointer (some ⟨b,0,none⟩) | 3=> vv=.pointer (some ⟨b,64,none⟩) | 4=> vv=.slice (some ⟨b,64,none⟩) 32 32 | 5=> vv=.slice tl tn tc | 7=> vv=.agg (arr .u8 32 (dg 256 (K:Int))) | _=> True)/\(ii=6->wH ww vv 23 3 [.slice (some ⟨x7,0,none⟩) 32 32,.slice (some ⟨b,64,none⟩) 32 32,.slice tl tn tc].toArray)) (rO [22]) (fun _ _ h=> rO.below h) (fun w b cs p _ _ hz=> rO.row hz rfl) (fun i v w w' h hE=> ⟨h.1,fun e=> wH.aav rfl (h.2 e) hE⟩)
   (eT rfl) (dA rfl) ?_ ?_ ?_ ?_
  ·refine bQ ?_;refine ⟨?_,?_,?_,?_,?_,?_,?_,?_,(fun h=> by cases h),(fun _ h=> by cases h),trivial⟩
   ·intro _ _ a w2 hB hF hd;exact aJ <| aO (cK rfl (hF.same 7 rfl) dU (by kernel_rfl)) ⟨rfl,aK⟩
   ·intro _ _ a w2 hB hF hd;exact aJ <| fq rfl ⟨(hF.same 0 rfl),aK⟩
   ·intro _ _ a w2 hB hF hd;exact aJ <| aO (kg rfl ((hd 1 _ rfl rfl rfl (aj rfl)).1)) ⟨rfl,aK⟩
   ·intro _ _ a w2 hB hF hd;refine aJ <| aO (bC (m:=31) (k:=64) rfl ((hd 2 _ rfl rfl rfl (aj rfl)).1) (by kernel_rfl)) ?_;exact ⟨rfl,aK⟩
   ·intro _ _ a w2 hB hF hd;exact aJ <| aO (Cz rfl ((hd 3 _ rfl rfl rfl (aj rfl)).1) dU (by kernel_rfl)) ⟨rfl,aK⟩
   ·intro _ _ a w2 hB hF hd;exact aJ <| fq rfl ⟨(hF.same 1 rfl),aK⟩
   ·intro _ _ a w2 hB hF hd;exact aJ <| jW 55 23 3 _ [.slice (some ⟨x7,0,none⟩) 32 32,.slice (some ⟨b,64,none⟩) 32 32,.slice tl tn tc] rfl Tryz.underlying55 (by kernel_rfl) (by kernel_rfl) rfl (by decide) (by decide) (by intro v hv;simp only [List.mem_cons,List.not_mem_nil,or_false] at hv;rcases hv with rfl | rfl | rfl<;> rfl) (by simp only [uG,List.map_cons,List.map_nil,show a.eval (Operand.tmp 26)=.slice (some ⟨x7,0,none⟩) 32 32 from ((hd 0 _ rfl rfl rfl (aj rfl)).1),show a.eval (Operand.tmp 30)=.slice (some ⟨b,64,none⟩) 32 32 from ((hd 4 _ rfl rfl rfl (aj rfl)).1),show a.eval (Operand.tmp 31)=.slice tl tn tc from ((hd 5 _ rfl rfl rfl (aj rfl)).1)];rfl) (by simp) ⟨trivial,fun _=> ((⟨_,rfl,heap_alloc_new _ _⟩))⟩
   ·intro _ _ a w2 hB hF hd;refine aJ <| aD _ _ _ rfl Tryz.call156 _ (args1 rfl) (by simp) ((HN3.out w2 _ (((hd 6 _ rfl rfl rfl (aj rfl)).2 rfl).aeU ((h7.kept hB).rd (by decide)) (h.afe.2.2.below hB) (HT.out.below hB))).mono ?_);rintro e w3 ⟨rfl,hb⟩;exact ⟨_,rfl,⟨rfl,aK⟩,hb⟩
  ·refine bQ ?_;refine ⟨(fun h=> by cases h),(fun h=> by cases h),(fun h=> by cases h),(fun h=> by cases h),(fun h=> by cases h),(fun h=> by cases h),(fun h=> by cases h),(fun h=> by cases h),?_,(fun h=> by cases h),trivial⟩
   ·exact fun _=> ⟨rfl,rfl,fun a w2 K h=> aP rfl rfl Tryz.zeroValue22 (by simp) h⟩
  ·refine bQ ?_;refine ⟨(fun _ h=> by cases h),(fun _ h=> by cases h),(fun _ h=> by cases h),(fun _ h=> by cases h),(fun _ h=> by cases h),(fun _ h=> by cases h),(fun _ h=> by cases h),(fun _ h=> by cases h),(fun _ h=> by cases h),?_,trivial⟩
   ·intro p hp;obtain rfl:8=p:=fT hp;exact ⟨rfl,rfl,⟨_,rfl⟩,aj rfl,fun a w2 b K hB hF hd hx hb h=> aY rfl rfl dz hx ((hd 7 _ rfl rfl rfl (aj rfl)).1) hb h⟩
  ·intro a w6 blk hB hF hS hv hfin bU;obtain ⟨v8,v8l,v8u⟩:=hv 8 _ rfl rfl;obtain ⟨x32,hx32⟩:∃x,x=a.tmps.getD 32 undef:=⟨_,rfl⟩
   have ha:=aI rfl rfl hF [_,_,_,_,_,_,x32,_,_,undef] rfl ⟨(hS 0 _ rfl rfl rfl).1,(hS 1 _ rfl rfl rfl).1,(hS 2 _ rfl rfl rfl).1,(hS 3 _ rfl rfl rfl).1,(hS 4 _ rfl rfl rfl).1,(hS 5 _ rfl rfl rfl).1,hx32.symm,(hS 7 _ rfl rfl rfl).1,v8,trivial,trivial⟩;have f8:=hfin 9 _ 8 rfl rfl;simp only [puts,Act.put,dH,dI,dJ] at ha;subst ha;clear hx32;have V8:aH .u8 w6 (blk 8) 32 (dg 256 (K:Int)):=⟨_,f8⟩
   clear hS hv hfin bU hF v8 f8;replace h:=h.kept hB;replace hZ:=hZ.kept hB;replace h6:=h6.kept hB;replace h7:=h7.kept hB;replace hbel:=hbel.trans (hB.mono hbel.size);obtain ⟨x8,e8⟩:∃x,x=blk 8:=⟨_,rfl⟩
   rw [<-e8] at V8 v8l ⊢;have h8:=V8;have hl8:=h8.lt;have l8:x7<x8:=by omega
   have ha:∀i,i<32->w6.cell? ⟨b,0+i,none⟩=some (.int .u8 (dg 256 (A:Int) i)):=fun i hi=> by rw [pF];exact h.cell i (aam _ _ _ hi)
   have hbl:=h.lt;have HAC:=ak ha;clear e8 hB V8 v8l v8u hl7 ha HT h;go_upto_region 6 with (fail)
   refine aT (n:=48) (by kernel_rfl) (by kernel_rfl) (by kernel_rfl) rfl
    (gJ [(8,7)]) (dS [(8,7)]) (fun _=> arr .u8 32 (fun _=> 0)) (fun _=> (arr .u8 32 (dg 256 (S:Int)))) (fun _=> 22) (fun _=> 9)
    (fun ii vv _=> (match ii with | 0=> vv=.agg (arr .u8 32 (dg 256 (K:Int))) | 1 | 2 | 3=> vv=.pointer (some ⟨b,0,none⟩) | 4=> vv=.agg (arr .u8 32 (dg 256 (A:Int))) | 5=> vv=.agg (arr .u8 32 (dg 256 (R:Int))) | 6=> vv=.agg (arr .u8 32 (dg 256 (S:Int))) | _=> True)) (fun _ _=> True) (fun _ _ _=> trivial) (fun _ _ _ _ _ _ _=> trivial) (fun _ _ _ _ h _=> h)
    (eT rfl) (dA rfl) ?_ ?_ ?_ ?_
   ·refine bQ ?_;refine ⟨?_,?_,?_,?_,?_,?_,?_,(fun h=> by cases h),(fun _ h=> by cases h),trivial⟩
    ·intro _ _ a w2 hB hF hd;exact aJ <| aO (aB rfl dU rfl dz (hF.same 8 rfl) (h8.below hB h8.lt)) rfl
    ·intro _ _ a w2 hB hF hd;exact aJ <| fq rfl (hF.same 0 rfl)
    ·intro _ _ a w2 hB hF hd;exact aJ <| aO (kg rfl (hd 1 _ rfl rfl rfl (aj rfl))) rfl
    ·intro _ _ a w2 hB hF hd;refine aJ <| aO (bC (m:=31) (k:=0) rfl (hd 2 _ rfl rfl rfl (aj rfl)) (by kernel_rfl)) ?_;exact rfl
    ·intro _ _ a w2 hB hF hd;exact aJ <| aO (fD rfl (hd 3 _ rfl rfl rfl (aj rfl)) dU dz (fun i hi=> (hB.cell (p:=⟨b,0+i,none⟩) hbl).trans (HAC.out i hi))) rfl
    ·intro _ _ a w2 hB hF hd;exact aJ <| aO (aB rfl dU rfl dz (hF.same 6 rfl) (h6.below hB h6.lt)) rfl
    ·intro _ _ a w2 hB hF hd;refine aJ <| aD _ _ _ rfl Tryz.call207 _ (tY (hd 0 _ rfl rfl rfl (aj rfl)) (hd 4 _ rfl rfl rfl (aj rfl)) (hd 5 _ rfl rfl rfl (aj rfl))) (by simp) ((HMA.out w2).mono ?_);rintro e w3 ⟨rfl,hb⟩;exact ⟨_,rfl,rfl,hb⟩
   ·refine bQ ?_;refine ⟨(fun h=> by cases h),(fun h=> by cases h),(fun h=> by cases h),(fun h=> by cases h),(fun h=> by cases h),(fun h=> by cases h),(fun h=> by cases h),?_,(fun h=> by cases h),trivial⟩
    ·exact fun _=> ⟨rfl,rfl,fun a w2 K h=> aP rfl rfl Tryz.zeroValue22 (by simp) h⟩
   ·refine bQ ?_;refine ⟨(fun _ h=> by cases h),(fun _ h=> by cases h),(fun _ h=> by cases h),(fun _ h=> by cases h),(fun _ h=> by cases h),(fun _ h=> by cases h),(fun _ h=> by cases h),(fun _ h=> by cases h),?_,trivial⟩
    ·intro p hp;obtain rfl:7=p:=fT hp;exact ⟨rfl,rfl,⟨_,rfl⟩,aj rfl,fun a w2 b K hB hF hd hx hb h=> aY rfl rfl dz hx (hd 6 _ rfl rfl rfl (aj rfl)) hb h⟩
   ·intro a w7 blk hB hF hS hv hfin bU;obtain ⟨v7,BQ,Sc⟩:=hv 7 _ rfl rfl;have ha:=aI rfl rfl hF [_,_,_,_,_,_,_,_,undef] rfl ⟨hS 0 _ rfl rfl rfl,hS 1 _ rfl rfl rfl,hS 2 _ rfl rfl rfl,hS 3 _ rfl rfl rfl,hS 4 _ rfl rfl rfl,hS 5 _ rfl rfl rfl,hS 6 _ rfl rfl rfl,v7,trivial,trivial⟩;have f7:=hfin 8 _ 7 rfl rfl;simp only [puts,Act.put,dH,dI,dJ] at ha;subst ha;have V7:aH .u8 w7 (blk 7) 32 (dg 256 (S:Int)):=⟨_,f7⟩
    clear hS hv hfin bU hF v7 f7;replace hZ:=hZ.kept hB;replace h7:=h7.kept hB;replace hbel:=hbel.trans (hB.mono hbel.size);obtain ⟨x9,e9⟩:∃x,x=blk 7:=⟨_,rfl⟩
    rw [<-e9] at V7 BQ ⊢;have h9:=V7;have l9:x7<x9:=by omega
    have hl9:=h9.lt;clear e9 hB V7 BQ Sc h6 h8 HAC hbl l8 hl8;go_upto_region 8 with (fail);refine aG (fun w8=> aH .u8 w8 w7.heap.size 64 (fun _=> 0)/\Below w7.heap.size w7 w8) ⟨bG rfl (by rfl),(bM _ _).alloc (bB _) _⟩ ?_;rintro w8 ⟨h10,hb⟩;replace hZ:=hZ.kept hb;replace h7:=h7.kept hb;replace h9:=h9.kept hb;replace hbel:=hbel.trans (hb.mono hbel.size);obtain ⟨x10,e10⟩:∃x,x=w7.heap.size:=⟨_,rfl⟩
    rw [<-e10] at h10 hl9 ⊢;clear e10 hb
    refine fJ (n:=48) 2 rfl (by decide) (by kernel_rfl) (by kernel_rfl) (by kernel_rfl) (by kernel_rfl) rfl
     (fun ii vv _=> (match ii with | 0=> vv=.slice (some ⟨x10,0,none⟩) 32 64 | 1=> vv=.slice (some ⟨x7,0,none⟩) 32 32 | _=> True))
     (fun w w'=> Below w.heap.size w w') (fun _ _ h=> h) (fun _ _ _ _ h _=> h) rfl ?_ ?_
    ·refine bQ ?_;refine ⟨?_,?_,(fun h=> absurd rfl h),trivial⟩
     ·intro _ a w2 hB hF hd;exact aJ <| aO (bP rfl (hF.same 10 rfl) (by simp only [Option.map_some,Option.map_none];exact gW (m:=32) Dh Ll (by decide))) rfl
     ·intro _ a w2 hB hF hd;exact aJ <| aO (cK rfl (hF.same 7 rfl) dU (by kernel_rfl)) rfl
    ·intro a w9 hB hF hS;obtain ⟨x43,afD⟩:∃x,x=a.tmps.getD 43 undef:=⟨_,rfl⟩
     have ha:=aI rfl rfl hF [_,_,x43] rfl ⟨hS 0 _ rfl (by decide),hS 1 _ rfl (by decide),afD.symm,trivial⟩;simp only [puts,Act.put,dH,dI,dJ] at ha;subst ha;clear afD;clear hS hF;replace hZ:=hZ.kept hB;replace h7:=h7.kept hB;replace h9:=h9.kept hB;replace h10:=h10.kept hB;replace hbel:=hbel.trans (hB.mono hbel.size);clear hB;refine jg _ _ 23 23 rfl (e:=5) (k:=.u8) x10 0 32 64 64 (fun _=> 0) kN Ll rfl h10 _ 32 _ (h7.rd (by decide)) rfl (by decide) (by decide) ?_;have q10:=hbel.size;have e10:w.heap.size<=x10:=by omega
     have hZ2:=hZ.aC x10 (by omega) (arr .u8 64 (laid (fun _=> 0) 0 32 (dg 256 FI)));have h92:=h9.aC x10 (by omega) (arr .u8 64 (laid (fun _=> 0) 0 32 (dg 256 FI)));have hA2:=h10.setRow 64 (laid (fun _=> 0) 0 32 (dg 256 FI));have hb2:=aA hbel e10 (arr .u8 64 (laid (fun _=> 0) 0 32 (dg 256 FI)));obtain ⟨wa,hwa⟩:∃wa,wa=w9.setRow x10 (arr .u8 64 (laid (fun _=> 0) 0 32 (dg 256 FI))):=⟨_,rfl⟩
     rw [<-hwa] at hZ2 h92 hA2 hb2 ⊢;clear hwa hZ h7 h9 h10 hbel q10;go_upto_region 9 with (fail)
     try simp only [List.getElem_toArray,List.getElem_cons_succ,List.getElem_cons_zero,Act.put]
     refine fJ (n:=48) 2 rfl (by decide) (by kernel_rfl) (by kernel_rfl) (by kernel_rfl) (by kernel_rfl) rfl
      (fun ii vv _=> (match ii with | 0=> vv=.slice (some ⟨x10,32,none⟩) (64 - 32) (64 - 32) | 1=> vv=.slice (some ⟨x9,0,none⟩) 32 32 | _=> True))
      (fun w w'=> Below w.heap.size w w') (fun _ _ h=> h) (fun _ _ _ _ h _=> h) rfl ?_ ?_
     ·refine bQ ?_;refine ⟨?_,?_,(fun h=> absurd rfl h),trivial⟩
      ·intro _ a w2 hB hF hd;exact aJ <| aO (bP rfl (hF.same 10 rfl) (by simp only [Option.map_some,Option.map_none];exact nL (m:=32) Dh Ll (by decide))) rfl
      ·intro _ a w2 hB hF hd;exact aJ <| aO (cK rfl (hF.same 9 rfl) dU (by kernel_rfl)) rfl
     ·intro a wb hB hF hS;obtain ⟨x46,yS⟩:∃x,x=a.tmps.getD 46 undef:=⟨_,rfl⟩
      have ha:=aI rfl rfl hF [_,_,x46] rfl ⟨hS 0 _ rfl (by decide),hS 1 _ rfl (by decide),yS.symm,trivial⟩;simp only [puts,Act.put,dH,dI,dJ] at ha;subst ha;clear yS;clear hS hF;replace hZ2:=hZ2.kept hB;replace h92:=h92.kept hB;replace hA2:=hA2.kept hB;replace hb2:=hb2.trans (hB.mono hb2.size);clear hB;refine jg _ _ 23 23 rfl (e:=5) (k:=.u8) x10 32 (64 - 32) (64 - 32) 64 (laid (fun _=> 0) 0 32 (dg 256 FI)) kN Ll rfl hA2 _ 32 _ (h92.rd (by decide)) rfl (by decide) (by decide) ?_;have hZ3:=hZ2.aC x10 (by omega) (arr .u8 64 (laid (laid (fun _=> 0) 0 32 (dg 256 FI)) 32 32 (dg 256 (S:Int))));have hA3:=(hA2.setRow 64 (laid (laid (fun _=> 0) 0 32 (dg 256 FI)) 32 32 (dg 256 (S:Int)))).congr Vf;have hb3:=aA hb2 e10 (arr .u8 64 (laid (laid (fun _=> 0) 0 32 (dg 256 FI)) 32 32 (dg 256 (S:Int))));obtain ⟨wc,hwc⟩:∃wc,wc=wb.setRow x10 (arr .u8 64 (laid (laid (fun _=> 0) 0 32 (dg 256 FI)) 32 32 (dg 256 (S:Int)))):=⟨_,rfl⟩
      rw [<-hwc] at hZ3 hA3 hb3 ⊢;clear hwc hZ2 h92 hA2 hb2;go_upto_region 10 with (fail)
      try simp only [List.getElem_toArray,List.getElem_cons_succ,List.getElem_cons_zero,Act.put]
      go_wp2_with (first
       | (refine aM rfl 47 _ rfl .u8 x10 64 (fH 32 (dg 256 FI) (dg 256 (S:Int))) 5 Dh Cb rfl hA3 ?_)
       | (refine aF rfl 47 _ _ rfl .u8 w.heap.size 64 (fun _=> 0) (fH 32 (dg 256 FI) (dg 256 (S:Int))) Cb rfl rfl hZ3 ?_))
      exact bodyPost_ret (eY rfl _ _ .u8 w.heap.size 64 _ 5 rfl (hZ3.setRow 64 (fH 32 (dg 256 FI) (dg 256 (S:Int)))) Dh Cb) rfl ⟨rfl,aA hb3 (bB _) _⟩
theorem Fj (S:Int) (w:World):Calls Tryz.prog 92 #[.agg (arr .u8 32 (dg 256 S))] w fun e w'=> e=.returned (.agg (arr .u8 32 (dg 256 (Hr S))))/\Below w.heap.size w w':=by
 have HK:=ak (fun w=> DL S w);have HP:=ak (fun w v h=> Cy (v:=v) (A:=dg 256 ((PS S:Nat):Int)) (P:=TH S) (U:=dg 256 (Hr S)) w h);obtain ⟨U,hU⟩:∃U,U=Hr S:=⟨_,rfl⟩
 rw [<-hU] at HK HP ⊢;clear hU
 go_enter Tryz.func92,Tryz.ntmps92
 go_upto_region 1 with (fail);refine aG (fun w1=> aH .u8 w1 w.heap.size 32 (dg 256 S)/\aH .u8 w1 (w.heap.size+1) 32 (fun _=> 0)/\Below w.heap.size w w1) ⟨.alloc (bG rfl rfl) _,bG (by first | omega | (simp<;> omega)) (by rfl),((bM _ _).alloc (bB _) _).alloc (by first | omega | (simp<;> omega)) _⟩ ?_;rintro w1 ⟨h1,h2,hbel⟩;go_wp2_with (refine aM rfl 22 _ rfl .u8 w.heap.size 32 (dg 256 S) 5 dU dz rfl h1 ?_);refine (HK.out _).mono ?_;rintro e w2 ⟨r,rfl,hr,hb⟩;replace h2:=h2.kept hb;replace hbel:=hbel.trans (hb.mono hbel.size);clear hb;go_wp2_with fail;refine (HP.out _ _ hr).mono ?_;rintro e w3 ⟨rfl,hb⟩;replace h2:=h2.kept hb;replace hbel:=hbel.trans (hb.mono hbel.size);have hl2:=h2.lt;clear hb hr;go_upto_region 2 with (refine aF rfl 22 _ _ rfl .u8 w3.heap.size 32 (fun _=> 0) (dg 256 U) dz rfl rfl (bG rfl (by rfl)) ?_);refine aG (fun w4=> aH .u8 w4 w3.heap.size 32 (dg 256 U)/\Below w3.heap.size w3 w4) ⟨(bG rfl (by rfl):aH .u8 _ _ 32 (fun _=> 0)).setRow _ _,aA ((bM _ _).alloc (bB _) _) (bB _) _⟩ ?_;rintro w4 ⟨h3,hb⟩;replace h2:=h2.kept hb;replace hbel:=hbel.trans (hb.mono hbel.size);obtain ⟨x3,e3⟩:∃x,x=w3.heap.size:=⟨_,rfl⟩
 rw [<-e3] at h3 hl2 ⊢;clear e3 hb
 try simp only [Act.put,dH,dI,dJ]
 go_wp2_with (first
  | (refine aM rfl 22 _ rfl .u8 x3 32 (dg 256 U) 5 dU dz rfl h3 ?_)
  | (refine aF rfl 22 _ _ rfl .u8 (w.heap.size+1) 32 (fun _=> 0) (dg 256 U) dz rfl rfl h2 ?_))
 exact bodyPost_ret (aZ rfl _ _ .u8 (w.heap.size+1) 32 _ 5 rfl (h2.setRow _ _) dU dz) rfl ⟨rfl,aA hbel (by omega) _⟩
noncomputable def DN (S:Int) (f:Nat->Int) (n:Nat):Nat->Int:=PL (PS S) (TH S) (dg 256 (Hr S)) f n
theorem Me (S:Int) (t:Value) (n:Nat) (f:Nat->Int) (w:World) (ht:Rd .u8 w t n f) (hn:n<=900000) (hf:∀i,i<n->0<=f i/\f i<256):
  Calls Tryz.prog 95 #[.agg (arr .u8 32 (dg 256 S)),t] w fun e w'=> e=.returned (.agg (arr .u8 64 (DN S f n)))/\Below w.heap.size w w':=by
 have HK:=ak (fun w=> DL S w);have HP:=ak (fun w v (h:wE w v (dg 256 ((PS S:Nat):Int)) (TH S) (dg 256 (Hr S))) (ht:Rd .u8 w t n f)=> IL t n f w h ht (TI S) hn (fun i _=> afc S i) (fun i _=> aX (by decide) _ _) hf);have HB:Hid (PL (PS S) (TH S) (dg 256 (Hr S)) f n=DN S f n):=rfl;have HT:=ak ht;obtain ⟨B,hB⟩:∃B,B=DN S f n:=⟨_,rfl⟩
 rw [<-hB] at HB ⊢;rw [HB.out] at HP;clear hB hn hf ht HB;obtain ⟨tl,tn,tc,et⟩:=HT.out.isSlice;subst et
 go_enter Tryz.func95,Tryz.ntmps95
 go_upto_region 1 with (fail);refine aG (fun w1=> aH .u8 w1 w.heap.size 32 (dg 256 S)/\aH .u8 w1 (w.heap.size+1) 64 (fun _=> 0)/\Below w.heap.size w w1) ⟨.alloc (bG rfl rfl) _,bG (by first | omega | (simp<;> omega)) (by rfl),((bM _ _).alloc (bB _) _).alloc (by first | omega | (simp<;> omega)) _⟩ ?_;rintro w1 ⟨h1,h2,hbel⟩;replace HT:=ak (HT.out.below hbel);go_wp2_with (refine aM rfl 22 _ rfl .u8 w.heap.size 32 (dg 256 S) 5 dU dz rfl h1 ?_);refine (HK.out _).mono ?_;rintro e w2 ⟨r,rfl,hr,hb⟩;replace h2:=h2.kept hb;replace HT:=ak (HT.out.below hb);replace hbel:=hbel.trans (hb.mono hbel.size);clear hb;go_wp2_with fail;refine (HP.out _ _ hr HT.out).mono ?_;rintro e w3 ⟨rfl,hb⟩;replace h2:=h2.kept hb;replace hbel:=hbel.trans (hb.mono hbel.size);have hl2:=h2.lt;clear hb hr;go_upto_region 2 with (refine aF rfl 47 _ _ rfl .u8 w3.heap.size 64 (fun _=> 0) B Cb rfl rfl (bG rfl (by rfl)) ?_);refine aG (fun w4=> aH .u8 w4 w3.heap.size 64 B/\Below w3.heap.size w3 w4) ⟨(bG rfl (by rfl):aH .u8 _ _ 64 (fun _=> 0)).setRow _ _,aA ((bM _ _).alloc (bB _) _) (bB _) _⟩ ?_;rintro w4 ⟨h3,hb⟩;replace h2:=h2.kept hb;replace hbel:=hbel.trans (hb.mono hbel.size);obtain ⟨x3,e3⟩:∃x,x=w3.heap.size:=⟨_,rfl⟩
 rw [<-e3] at h3 hl2 ⊢;clear e3 hb
 try simp only [Act.put,dH,dI,dJ]
 go_wp2_with (first
  | (refine aM rfl 47 _ rfl .u8 x3 64 B 5 Dh Cb rfl h3 ?_)
  | (refine aF rfl 47 _ _ rfl .u8 (w.heap.size+1) 64 (fun _=> 0) B Cb rfl rfl h2 ?_))
 exact bodyPost_ret (aZ rfl _ _ .u8 (w.heap.size+1) 64 _ 5 rfl (h2.setRow _ _) Dh Cb) rfl ⟨rfl,aA hbel (by omega) _⟩
def tZ (f2:Nat->Int):Int:=sm 256 f2 32
def qz (f2:Nat->Int):Nat:=(sm 256 (fun i=> f2 (32+i)) 32).toNat
noncomputable def Lv (A:Int) (n:Nat) (f f2:Nat->Int):Nat:=CP (32+(32+n)) (fH 32 (dg 256 (tZ f2)) (fH 32 (dg 256 A) f))
noncomputable def Ck (A:Int) (p:Ed C7) (n:Nat) (f f2:Nat->Int):Ed C7:=(Bp.mul (qz f2)).add (p.mul (Lv A n f f2)).neg
def Xk (A:Int) (n:Nat) (f:Nat->Int) (n2:Nat) (f2:Nat->Int) (c:Int):Prop:=
 (n2≠64->c=2)/\(n2=64->(¬ MC A->c=21)/\∀p:Ed C7,dB p=A->(iW<=qz f2->c=22)/\(qz f2<iW->(dB (Ck A p n f f2)=tZ f2->c=0)/\(dB (Ck A p n f f2)≠tZ f2->c=22)))
theorem Fh (A:Int) (h0:0<=A) (h1:A<2 ^ 256) (t s:Value) (n n2:Nat) (f f2:Nat->Int) (w:World) (ht:Rd .u8 w t n f) (hs:Rd .u8 w s n2 f2) (hn:n<=900000) (hf:∀i,i<n->0<=f i/\f i<256) (hf2:∀i,i<n2->0<=f2 i/\f2 i<256):
  Calls Tryz.prog 104 #[.agg (arr .u8 32 (dg 256 A)),t,s] w fun e w'=> ∃c,e=.returned (.int .i64 c)/\Xk A n f n2 f2 c/\Below w.heap.size w w':=by
 have HT:=ak ht;have Xt:=ak hs;obtain ⟨tl,tn,tc,et⟩:=ht.isSlice;subst et;obtain ⟨sl,sc,es,hc1,hc2,_,_⟩:=id hs;subst es;have HPO:=ak (fun w=> Yu A h0 h1 w);clear ht hs
 go_enter Tryz.func104,Tryz.ntmps104
 go_upto_region 1 with (fail);refine aG (fun w1=> aH .u8 w1 w.heap.size 32 (dg 256 A)/\Below w.heap.size w w1) ⟨bG rfl rfl,(bM _ _).alloc (bB _) _⟩ ?_;rintro w1 ⟨h3,hbel⟩;replace HT:=ak (HT.out.below hbel);replace Xt:=ak (Xt.out.below hbel);by_cases h64:n2=64
 case neg=>
  have hne:¬ ((n2:Int)=64):=by omega
  have HR:Hid (Xk A n f n2 f2 2):=⟨fun _=> rfl,fun h=> absurd h h64⟩
  clear h64;go_wp2;go_ret;exact ⟨_,rfl,HR.out,hbel⟩
 case pos=>
  subst h64;go_wp2_with (refine aM rfl 22 _ rfl .u8 w.heap.size 32 (dg 256 A) 5 dU dz rfl h3 ?_);refine (HPO.out _).mono ?_;rintro e w2 ⟨r,c,rfl,hof,hb⟩;replace h3:=h3.kept hb;replace HT:=ak (HT.out.below hb);replace Xt:=ak (Xt.out.below hb);replace hbel:=hbel.trans (hb.mono hbel.size);have HR:∃F7,r=.agg (arr .i64 64 F7)/\((c=0/\∃p:Ed C7,qm F7 p/\dB p=A)\/(c=21/\¬ MC A)):=by
   rcases hof with ⟨rfl,ho,p,⟨F3,h8,h9⟩,h10⟩ | ⟨rfl,h8,ho⟩
   ·exact ⟨F3,h8,.inl ⟨rfl,p,h9,h10⟩⟩
   ·exact ⟨_,h8,.inr ⟨rfl,ho⟩⟩
  obtain ⟨F7,rfl,hcc⟩:=HR;have HCC:=ak hcc;have hl3:=h3.lt;clear hof hb hcc;go_upto_region 4 with (refine aF rfl 193 _ _ rfl .i64 w2.heap.size 64 (fun _=> 0) F7 Tryz.size193 rfl rfl (bG rfl (by rfl)) ?_);refine aG (fun w5=> aH .i64 w5 w2.heap.size 64 F7/\Below w2.heap.size w2 w5) ⟨(bG rfl (by rfl):aH .i64 _ _ 64 (fun _=> 0)).setRow _ _,aA ((bM _ _).alloc (bB _) _) (bB _) _⟩ ?_;rintro w5 ⟨h7,hb⟩;replace h3:=h3.kept hb;replace HT:=ak (HT.out.below hb);replace Xt:=ak (Xt.out.below hb);replace hbel:=hbel.trans (hb.mono hbel.size);obtain ⟨x7,e7⟩:∃x,x=w2.heap.size:=⟨_,rfl⟩
  rw [<-e7] at h7 hl3 ⊢;have hl7:=h7.lt;clear e7 hb
  try simp only [Act.put,dH,dI,dJ]
  rcases HCC.out with ⟨rfl,p,hpf,hbp⟩ | ⟨rfl,hno⟩
  case inr=>
   have HR:Hid (Xk A n f 64 f2 21):=⟨fun h=> absurd rfl h,fun _=> ⟨fun _=> rfl,fun q hq=> absurd (hq▸Aw q) hno⟩⟩
   clear hno HCC;go_wp2;go_ret;exact ⟨_,rfl,HR.out,hbel⟩
  case inl=>
   have HPF:=ak hpf;have HBP:=ak hbp;clear hpf hbp HCC;have hF:arr .u8 32 f2=arr .u8 32 (dg 256 (tZ f2)):=eF fun i hi=> (rF (by decide) (fun i hi=> hf2 i (by omega)) i hi).symm;have hS0:0<=sm 256 (fun i=> f2 (32+i)) 32/\sm 256 (fun i=> f2 (32+i)) 32<256 ^ 32:=jK (by decide) (fun i hi=> hf2 (32+i) (by omega));have hSn:((qz f2:Nat):Int)=sm 256 (fun i=> f2 (32+i)) 32:=Int.toNat_of_nonneg hS0.1;have hS:arr .u8 32 (fun i=> f2 (32+i))=arr .u8 32 (dg 256 ((qz f2:Nat):Int)):=by
    rw [hSn];exact eF fun i hi=> (rF (by decide) (fun i hi=> hf2 (32+i) (by omega)) i hi).symm
   have hFb:0<=tZ f2/\tZ f2<256 ^ 32:=jK (by decide) (fun i hi=> hf2 i (by omega));have HSL:Hid (qz f2<2 ^ 256):=by
    have e:(256:Int) ^ 32=2 ^ 256:=(by decide)
    unfold Hid;omega
   have Xv:Hid (∀w,Calls Tryz.prog 155 #[.agg (arr .u8 32 (dg 256 ((qz f2:Nat):Int)))] w fun e w'=> e=.returned (.bool (decide (qz f2<iW)))/\Below w.heap.size w w'):=fun w=> by
    have h:=RO ((qz f2:Nat):Int) w ⟨by omega,by omega⟩;rw [show decide (qz f2<iW)=decide (((qz f2:Nat):Int)<Q) from decide_eq_decide.2 (by rw [Xl];omega)];exact h
   have HNM:Hid (∀w v,nH w v 3 (iB 1 (fun _=> 32) (iB 1 (fun _=> 32) (fun _=> n))) (iZ 1 (fun _=> dg 256 (tZ f2)) (iZ 1 (fun _=> dg 256 A) (fun _=> f)))->Calls Tryz.prog 156 #[v] w fun e w'=> e=.returned (.agg (arr .u8 32 (dg 256 ((Lv A n f f2:Nat):Int))))/\Below w.heap.size w w'):=fun w v h=>
    TB v 32 32 n _ _ f w h (by omega) (fun i _=> aX (by decide) _ _) (fun i _=> aX (by decide) _ _) hf
   have HKL:Hid (Lv A n f f2<2 ^ 256):=Nat.lt_trans (FW _ _) (by decide);have hDb:=qh (Ck A p n f f2);have HCM:Hid (jk 32 (dg 256 (dB (Ck A p n f f2))) (dg 256 (tZ f2))=decide (dB (Ck A p n f f2)=tZ f2)):=TJ hDb.1 (by have e:(256:Int) ^ 32=2 ^ 256:=(by decide);omega) hFb.1 hFb.2;have HVR:Hid (∀c,((qz f2<iW->((dB (Ck A p n f f2)=tZ f2->c=0)/\(dB (Ck A p n f f2)≠tZ f2->c=22)))/\(iW<=qz f2->c=22))->Xk A n f 64 f2 c):=fun c hc=> by
    refine ⟨fun h=> absurd rfl h,fun _=> ⟨fun h=> absurd (HBP.out▸Aw p) h,fun q hq=> ?_⟩⟩;obtain rfl:q=p:=Nv (hq.trans HBP.out.symm);exact ⟨hc.2,hc.1⟩
   have HD:Hid (Ck A p n f f2=(Bp.mul (qz f2)).add (p.mul (Lv A n f f2)).neg):=rfl;obtain ⟨D,hD⟩:∃D,D=Ck A p n f f2:=⟨_,rfl⟩
   rw [<-hD] at HCM HVR HD;obtain ⟨K,hK⟩:∃K,K=Lv A n f f2:=⟨_,rfl⟩
   rw [<-hK] at HNM HKL HD;obtain ⟨S2,hS2⟩:∃S2,S2=qz f2:=⟨_,rfl⟩
   rw [<-hS2] at hS HSL Xv HVR HD;obtain ⟨F1,hF1⟩:∃F1,F1=tZ f2:=⟨_,rfl⟩
   rw [<-hF1] at hF HNM HCM HVR;have HFQ:=ak hF;have HSQ:=ak hS;have HBF:=ak FP;have ZV:=ak (fun w=> Ap w);obtain ⟨F,OL⟩:∃F,F=Bv:=⟨_,rfl⟩
   rw [<-OL] at HBF ZV;have G1:=ak (Rd.head (P:=Tryz.prog) kN sV sl 64 sc 32 (by decide) hc1);obtain ⟨a2,g1,g2,g3⟩:=Rd.cut (P:=Tryz.prog) kN sV sl 64 sc 32 64 (by decide) (bB _) hc1;have G2:=ak g2;obtain ⟨b1,o1,q1,l1,c1⟩:=(G1.out.2 _ _ Xt.out).Gs (by decide);obtain ⟨b2,o2,q2,l2,c2⟩:=(g3 _ _ Xt.out).2.Gs (by decide);subst q1;subst q2;have wM:=ak c1;have Le:=ak c2;clear hD hK hS2 hF1 OL hF hS hS0 hSn hFb hDb g1 g2 g3 c1 c2 h0 h1 hf hf2 hn hc2 Xt hc1;go_upto_region 6 with (fail)
   refine aT (n:=50) (by kernel_rfl) (by kernel_rfl) (by kernel_rfl) rfl
    (gJ [(10,8),(11,9)]) (dS [(10,8),(11,9)]) (fun _=> arr .u8 32 (fun _=> 0)) (fun i=> match i with | 8=> (arr .u8 32 (dg 256 F1)) | 9=> (arr .u8 32 (dg 256 (S2:Int))) | _=> #[]) (fun _=> 22) (fun i=> match i with | 8=> 9 | 9=> 10 | _=> 0)
    (fun ii vv _=> (match ii with | 0 | 4=> vv=.slice (some ⟨b1,o1,none⟩) 64 sc | 1=> vv=.slice (some ⟨b1,o1,none⟩) 32 sc | 2=> vv=.pointer (some ⟨b1,o1,none⟩) | 3=> vv=.agg (arr .u8 32 (dg 256 F1)) | 5=> vv=.slice (some ⟨b2,o2,none⟩) (64 - 32) (sc - 32) | 6=> vv=.pointer (some ⟨b2,o2,none⟩) | 7=> vv=.agg (arr .u8 32 (dg 256 (S2:Int))) | _=> True)) (fun _ _=> True) (fun _ _ _=> trivial) (fun _ _ _ _ _ _ _=> trivial) (fun _ _ _ _ h _=> h)
    (eT rfl) (dA rfl) ?_ ?_ ?_ ?_
   ·refine bQ ?_;refine ⟨?_,?_,?_,?_,?_,?_,?_,?_,(fun h=> by cases h),(fun h=> by cases h),(fun _ h=> by cases h),(fun _ h=> by cases h),trivial⟩
    ·intro _ _ a w2 hB hF hd;exact aJ <| fq rfl (hF.same 2 rfl)
    ·intro _ _ a w2 hB hF hd;exact aJ <| aO (bP rfl (hd 0 _ rfl rfl rfl (aj rfl)) (by simp only [Option.map_some,Option.map_none];exact G1.out.1 _)) rfl
    ·intro _ _ a w2 hB hF hd;exact aJ <| aO (gF rfl (hd 1 _ rfl rfl rfl (aj rfl)) dU (by decide)) rfl
    ·intro _ _ a w2 hB hF hd;exact aJ <| aO (fD rfl (hd 2 _ rfl rfl rfl (aj rfl)) dU dz (fun i hi=> (hB.cell (p:=⟨b1,o1+i,none⟩) l1).trans (wM.out i hi))) (congrArg Value.agg HFQ.out)
    ·intro _ _ a w2 hB hF hd;exact aJ <| fq rfl (hF.same 2 rfl)
    ·intro _ _ a w2 hB hF hd;exact aJ <| aO (bP rfl (hd 4 _ rfl rfl rfl (aj rfl)) (by simp only [Option.map_some,Option.map_none];exact G2.out _)) rfl
    ·intro _ _ a w2 hB hF hd;exact aJ <| aO (gF rfl (hd 5 _ rfl rfl rfl (aj rfl)) dU (by decide)) rfl
    ·intro _ _ a w2 hB hF hd;exact aJ <| aO (fD rfl (hd 6 _ rfl rfl rfl (aj rfl)) dU dz (fun i hi=> (hB.cell (p:=⟨b2,o2+i,none⟩) l2).trans (Le.out i hi))) (congrArg Value.agg HSQ.out)
   ·refine bQ ?_;refine ⟨(fun h=> by cases h),(fun h=> by cases h),(fun h=> by cases h),(fun h=> by cases h),(fun h=> by cases h),(fun h=> by cases h),(fun h=> by cases h),(fun h=> by cases h),?_,?_,(fun h=> by cases h),(fun h=> by cases h),trivial⟩
    ·exact fun _=> ⟨rfl,rfl,fun a w2 K h=> aP rfl rfl Tryz.zeroValue22 (by simp) h⟩
    ·exact fun _=> ⟨rfl,rfl,fun a w2 K h=> aP rfl rfl Tryz.zeroValue22 (by simp) h⟩
   ·refine bQ ?_;refine ⟨(fun _ h=> by cases h),(fun _ h=> by cases h),(fun _ h=> by cases h),(fun _ h=> by cases h),(fun _ h=> by cases h),(fun _ h=> by cases h),(fun _ h=> by cases h),(fun _ h=> by cases h),(fun _ h=> by cases h),(fun _ h=> by cases h),?_,?_,trivial⟩
    ·intro p hp;obtain rfl:8=p:=fT hp;exact ⟨rfl,rfl,⟨_,rfl⟩,aj rfl,fun a w2 b K hB hF hd hx hb h=> aY rfl rfl dz hx (hd 3 _ rfl rfl rfl (aj rfl)) hb h⟩
    ·intro p hp;obtain rfl:9=p:=fT hp;exact ⟨rfl,rfl,⟨_,rfl⟩,aj rfl,fun a w2 b K hB hF hd hx hb h=> aY rfl rfl dz hx (hd 7 _ rfl rfl rfl (aj rfl)) hb h⟩
   ·intro a w6 blk hB hF hS hv hfin bU;obtain ⟨v8,v8l,v8u⟩:=hv 8 _ rfl rfl;obtain ⟨v9,v9l,v9u⟩:=hv 9 _ rfl rfl;have ha:=aI rfl rfl hF [_,_,_,_,_,_,_,_,_,_,undef,undef] rfl ⟨hS 0 _ rfl rfl rfl,hS 1 _ rfl rfl rfl,hS 2 _ rfl rfl rfl,hS 3 _ rfl rfl rfl,hS 4 _ rfl rfl rfl,hS 5 _ rfl rfl rfl,hS 6 _ rfl rfl rfl,hS 7 _ rfl rfl rfl,v8,v9,trivial,trivial,trivial⟩;have f8:=hfin 10 _ 8 rfl rfl;have f9:=hfin 11 _ 9 rfl rfl;have ake:=bU 8 9 _ _ rfl rfl rfl rfl (by decide);simp only [puts,Act.put,dH,dI,dJ] at ha;subst ha;have V8:aH .u8 w6 (blk 8) 32 (dg 256 F1):=⟨_,f8⟩
    have V9:aH .u8 w6 (blk 9) 32 (dg 256 (S2:Int)):=⟨_,f9⟩
    clear hS hv hfin bU hF v8 v9 f8 f9;replace h3:=h3.kept hB;replace h7:=h7.kept hB;replace HT:=ak (HT.out.below hB);replace hbel:=hbel.trans (hB.mono hbel.size);obtain ⟨x9,e9⟩:∃x,x=blk 8:=⟨_,rfl⟩
    obtain ⟨x10,e10⟩:∃x,x=blk 9:=⟨_,rfl⟩
    rw [<-e9] at V8 v8l ⊢;rw [<-e10] at V9 v9l ⊢;have h9:=V8;have h10:=V9;clear hB V8 V9 v8l v8u v9l v9u ake e9 e10 l1 l2 wM Le G1 G2 HFQ HSQ;go_wp2_with (refine aM rfl 22 _ rfl .u8 x10 32 (dg 256 (S2:Int)) 5 dU dz rfl h10 ?_);refine (Xv.out _).mono ?_;rintro e w7 ⟨rfl,hb⟩;replace h3:=h3.kept hb;replace h7:=h7.kept hb;replace h9:=h9.kept hb;replace h10:=h10.kept hb;replace HT:=ak (HT.out.below hb);replace hbel:=hbel.trans (hb.mono hbel.size);clear hb;by_cases hlt:S2<iW
    case neg=>
     have HR:=ak (HVR.out 22 ⟨fun h=> absurd h hlt,fun _=> rfl⟩);rw [decide_eq_false hlt];clear hlt;go_wp2;go_ret;exact ⟨_,rfl,HR.out,hbel⟩
    case pos=>
     rw [decide_eq_true hlt];have Hw:=ak hlt;clear hlt;go_upto_region 9 with (fail)
     refine aT (n:=50) (by kernel_rfl) (by kernel_rfl) (by kernel_rfl) rfl
      (gJ [(6,5)]) (dS [(6,5)]) (fun _=> arr .u8 32 (fun _=> 0)) (fun _=> (arr .u8 32 (dg 256 (K:Int)))) (fun _=> 22) (fun _=> 11)
      (fun ii vv ww=> (match ii with | 0=> vv=.slice (some ⟨x9,0,none⟩) 32 32 | 1=> vv=.slice (some ⟨w.heap.size,0,none⟩) 32 32 | 2=> vv=.slice tl tn tc | 4=> vv=.agg (arr .u8 32 (dg 256 (K:Int))) | _=> True)/\(ii=3->wH ww vv 23 3 [.slice (some ⟨x9,0,none⟩) 32 32,.slice (some ⟨w.heap.size,0,none⟩) 32 32,.slice tl tn tc].toArray)) (rO [22]) (fun _ _ h=> rO.below h) (fun w b cs p _ _ hz=> rO.row hz rfl) (fun i v w w' h hE=> ⟨h.1,fun e=> wH.aav rfl (h.2 e) hE⟩)
      (eT rfl) (dA rfl) ?_ ?_ ?_ ?_
     ·refine bQ ?_;refine ⟨?_,?_,?_,?_,?_,(fun h=> by cases h),(fun _ h=> by cases h),trivial⟩
      ·intro _ _ a w2 hB hF hd;exact aJ <| aO (cK rfl (hF.same 9 rfl) dU (by kernel_rfl)) ⟨rfl,aK⟩
      ·intro _ _ a w2 hB hF hd;exact aJ <| aO (cK rfl (hF.same 3 rfl) dU (by kernel_rfl)) ⟨rfl,aK⟩
      ·intro _ _ a w2 hB hF hd;exact aJ <| fq rfl ⟨(hF.same 1 rfl),aK⟩
      ·intro _ _ a w2 hB hF hd;exact aJ <| jW 55 23 3 _ [.slice (some ⟨x9,0,none⟩) 32 32,.slice (some ⟨w.heap.size,0,none⟩) 32 32,.slice tl tn tc] rfl Tryz.underlying55 (by kernel_rfl) (by kernel_rfl) rfl (by decide) (by decide) (by intro v hv;simp only [List.mem_cons,List.not_mem_nil,or_false] at hv;rcases hv with rfl | rfl | rfl<;> rfl) (by simp only [uG,List.map_cons,List.map_nil,show a.eval (Operand.tmp 34)=.slice (some ⟨x9,0,none⟩) 32 32 from ((hd 0 _ rfl rfl rfl (aj rfl)).1),show a.eval (Operand.tmp 35)=.slice (some ⟨w.heap.size,0,none⟩) 32 32 from ((hd 1 _ rfl rfl rfl (aj rfl)).1),show a.eval (Operand.tmp 36)=.slice tl tn tc from ((hd 2 _ rfl rfl rfl (aj rfl)).1)];rfl) (by simp) ⟨trivial,fun _=> ((⟨_,rfl,heap_alloc_new _ _⟩))⟩
      ·intro _ _ a w2 hB hF hd;refine aJ <| aD _ _ _ rfl Tryz.call156 _ (args1 rfl) (by simp) ((HNM.out w2 _ (((hd 3 _ rfl rfl rfl (aj rfl)).2 rfl).aeU ((h9.kept hB).rd (by decide)) ((h3.kept hB).rd (by decide)) (HT.out.below hB))).mono ?_);rintro e w3 ⟨rfl,hb⟩;exact ⟨_,rfl,⟨rfl,aK⟩,hb⟩
     ·refine bQ ?_;refine ⟨(fun h=> by cases h),(fun h=> by cases h),(fun h=> by cases h),(fun h=> by cases h),(fun h=> by cases h),?_,(fun h=> by cases h),trivial⟩
      ·exact fun _=> ⟨rfl,rfl,fun a w2 K h=> aP rfl rfl Tryz.zeroValue22 (by simp) h⟩
     ·refine bQ ?_;refine ⟨(fun _ h=> by cases h),(fun _ h=> by cases h),(fun _ h=> by cases h),(fun _ h=> by cases h),(fun _ h=> by cases h),(fun _ h=> by cases h),?_,trivial⟩
      ·intro p hp;obtain rfl:5=p:=fT hp;exact ⟨rfl,rfl,⟨_,rfl⟩,aj rfl,fun a w2 b K hB hF hd hx hb h=> aY rfl rfl dz hx ((hd 4 _ rfl rfl rfl (aj rfl)).1) hb h⟩
     ·intro a w8 blk hB hF hS hv hfin bU;obtain ⟨v5,uU,Dl⟩:=hv 5 _ rfl rfl;obtain ⟨x37,QG⟩:∃x,x=a.tmps.getD 37 undef:=⟨_,rfl⟩
      have ha:=aI rfl rfl hF [_,_,_,x37,_,_,undef] rfl ⟨(hS 0 _ rfl rfl rfl).1,(hS 1 _ rfl rfl rfl).1,(hS 2 _ rfl rfl rfl).1,QG.symm,(hS 4 _ rfl rfl rfl).1,v5,trivial,trivial⟩;have f5:=hfin 6 _ 5 rfl rfl;simp only [puts,Act.put,dH,dI,dJ] at ha;subst ha;clear QG;have V5:aH .u8 w8 (blk 5) 32 (dg 256 (K:Int)):=⟨_,f5⟩
      clear hS hv hfin bU hF v5 f5;replace h7:=h7.kept hB;replace h9:=h9.kept hB;replace h10:=h10.kept hB;replace hbel:=hbel.trans (hB.mono hbel.size);obtain ⟨x11,e11⟩:∃x,x=blk 5:=⟨_,rfl⟩
      rw [<-e11] at V5 ⊢;have h11:=V5;clear hB V5 uU Dl e11 h3 HT;go_upto_region 10 with (fail);by_cases hcm:dB D=F1
      case pos=>
       have HR:=ak (HVR.out 0 ⟨fun _=> ⟨fun _=> rfl,fun h=> absurd hcm h⟩,fun h=> absurd Hw.out (by omega)⟩);have HQ:Hid (jk 32 (dg 256 (dB D)) (dg 256 F1)=true):=by rw [HCM.out];exact decide_eq_true hcm
       clear hcm
       refine aR (n:=50) (by kernel_rfl) (by kernel_rfl) (by kernel_rfl) rfl
        (fun ii vv ww=> (match ii with | 0=> vv=.agg (arr .i64 64 (F)) | 1=> vv=.agg (arr .u8 32 (dg 256 (S2:Int))) | 3=> vv=.agg (arr .i64 64 (F7)) | 4=> vv=.agg (arr .u8 32 (dg 256 (K:Int))) | 8=> vv=.agg (arr .u8 32 (dg 256 (dB D))) | 9=> vv=.agg (arr .u8 32 (dg 256 F1)) | 10=> vv=.bool false | _=> True)/\(ii=2->tu vv (Bp.mul S2))/\(ii=5->tu vv (p.mul K))/\(ii=6->tu vv ((p.mul K).neg))/\(ii=7->tu vv ((Bp.mul S2).add ((p.mul K).neg))))
        (fun w w'=> Below w.heap.size w w') (fun _ _ h=> h) (fun i v w w' h hE=> ⟨h.1,fun e=> tu.keep (h.2.1 e) hE,fun e=> tu.keep (h.2.2.1 e) hE,fun e=> tu.keep (h.2.2.2.1 e) hE,fun e=> tu.keep (h.2.2.2.2 e) hE⟩) ?_ ?_
       ·refine bQ ?_;refine ⟨?_,?_,?_,?_,?_,?_,?_,?_,?_,?_,?_,trivial⟩
        ·intro a w2 hB hF hd;refine aJ <| aD _ _ _ rfl Tryz.call157 _ pz (by simp) ((ZV.out w2).mono ?_);rintro e w3 ⟨rfl,hb⟩;exact ⟨_,rfl,⟨rfl,aK,aK,aK,aK⟩,hb⟩
        ·intro a w2 hB hF hd;exact aJ <| aO (aB rfl dU rfl dz (hF.same 10 rfl) (h10.below hB h10.lt)) ⟨rfl,aK,aK,aK,aK⟩
        ·intro a w2 hB hF hd;refine aJ <| aD _ _ _ rfl Tryz.call158 _ (args2 ((hd 0 _ rfl (aj rfl)).1) ((hd 1 _ rfl (aj rfl)).1)) (by simp) ((DV S2 HSL.out w2 ⟨_,rfl,HBF.out⟩).mono ?_);rintro e w3 ⟨u,rfl,hr,hb⟩;exact ⟨u,rfl,⟨trivial,fun _=> hr,aK,aK,aK⟩,hb⟩
        ·intro a w2 hB hF hd;exact aJ <| aO (aB rfl uH rfl Tryz.size193 (hF.same 7 rfl) (h7.below hB h7.lt)) ⟨rfl,aK,aK,aK,aK⟩
        ·intro a w2 hB hF hd;exact aJ <| aO (aB rfl dU rfl dz (hF.same 11 rfl) (h11.below hB h11.lt)) ⟨rfl,aK,aK,aK,aK⟩
        ·intro a w2 hB hF hd;refine aJ <| aD _ _ _ rfl Tryz.call158 _ (args2 ((hd 3 _ rfl (aj rfl)).1) ((hd 4 _ rfl (aj rfl)).1)) (by simp) ((DV K HKL.out w2 ⟨_,rfl,HPF.out⟩).mono ?_);rintro e w3 ⟨u,rfl,hr,hb⟩;exact ⟨u,rfl,⟨trivial,aK,fun _=> hr,aK,aK⟩,hb⟩
        ·intro a w2 hB hF hd;refine aJ <| aD _ _ _ rfl Tryz.call160 _ (args1 rfl) (by simp) ((aas w2 ((hd 5 _ rfl (aj rfl)).2.2.1 rfl)).mono ?_);rintro e w3 ⟨u,rfl,hr,hb⟩;exact ⟨u,rfl,⟨trivial,aK,aK,fun _=> hr,aK⟩,hb⟩
        ·intro a w2 hB hF hd;refine aJ <| aD _ _ _ rfl Tryz.call159 _ (args2 rfl rfl) (by simp) ((aat w2 ((hd 2 _ rfl (aj rfl)).2.1 rfl) ((hd 6 _ rfl (aj rfl)).2.2.2.1 rfl)).mono ?_);rintro e w3 ⟨u,rfl,hr,hb⟩;exact ⟨u,rfl,⟨trivial,aK,aK,aK,fun _=> hr⟩,hb⟩
        ·intro a w2 hB hF hd;refine aJ <| aD _ _ _ rfl Tryz.call161 _ (args1 rfl) (by simp) (((HD.out▸zx w2 ((hd 7 _ rfl (aj rfl)).2.2.2.2 rfl))).mono ?_);rintro e w3 ⟨rfl,hb⟩;exact ⟨_,rfl,⟨rfl,aK,aK,aK,aK⟩,hb⟩
        ·intro a w2 hB hF hd;exact aJ <| aO (aB rfl dU rfl dz (hF.same 9 rfl) (h9.below hB h9.lt)) ⟨rfl,aK,aK,aK,aK⟩
        ·intro a w2 hB hF hd;exact aJ <| aO (jU true rfl ((hd 8 _ rfl (aj rfl)).1) ((hd 9 _ rfl (aj rfl)).1) dU (by kernel_rfl) (by kernel_rfl) (by kernel_rfl) (by kernel_rfl) (by kernel_rfl) HQ.out) ⟨rfl,aK,aK,aK,aK⟩
       ·intro a w9 hB hF hS;obtain ⟨x41,Gm⟩:∃x,x=a.tmps.getD 41 undef:=⟨_,rfl⟩
        obtain ⟨x44,Vp⟩:∃x,x=a.tmps.getD 44 undef:=⟨_,rfl⟩
        obtain ⟨x45,Gl⟩:∃x,x=a.tmps.getD 45 undef:=⟨_,rfl⟩
        obtain ⟨x46,yS⟩:∃x,x=a.tmps.getD 46 undef:=⟨_,rfl⟩
        have ha:=aI rfl rfl hF [_,_,x41,_,_,x44,x45,x46,_,_,_] rfl ⟨(hS 0 _ rfl).1,(hS 1 _ rfl).1,Gm.symm,(hS 3 _ rfl).1,(hS 4 _ rfl).1,Vp.symm,Gl.symm,yS.symm,(hS 8 _ rfl).1,(hS 9 _ rfl).1,(hS 10 _ rfl).1,trivial⟩;simp only [puts,Act.put,dH,dI,dJ] at ha;subst ha;clear Gm Vp Gl yS;clear hS hF;have hb9:=hbel.trans (hB.mono hbel.size);go_wp2;go_ret;exact ⟨_,rfl,HR.out,hb9⟩
      case neg=>
       have HR:=ak (HVR.out 22 ⟨fun _=> ⟨fun h=> absurd h hcm,fun _=> rfl⟩,fun _=> rfl⟩);have HQ:Hid (jk 32 (dg 256 (dB D)) (dg 256 F1)=false):=by rw [HCM.out];exact decide_eq_false hcm
       clear hcm
       refine aR (n:=50) (by kernel_rfl) (by kernel_rfl) (by kernel_rfl) rfl
        (fun ii vv ww=> (match ii with | 0=> vv=.agg (arr .i64 64 (F)) | 1=> vv=.agg (arr .u8 32 (dg 256 (S2:Int))) | 3=> vv=.agg (arr .i64 64 (F7)) | 4=> vv=.agg (arr .u8 32 (dg 256 (K:Int))) | 8=> vv=.agg (arr .u8 32 (dg 256 (dB D))) | 9=> vv=.agg (arr .u8 32 (dg 256 F1)) | 10=> vv=.bool true | _=> True)/\(ii=2->tu vv (Bp.mul S2))/\(ii=5->tu vv (p.mul K))/\(ii=6->tu vv ((p.mul K).neg))/\(ii=7->tu vv ((Bp.mul S2).add ((p.mul K).neg))))
        (fun w w'=> Below w.heap.size w w') (fun _ _ h=> h) (fun i v w w' h hE=> ⟨h.1,fun e=> tu.keep (h.2.1 e) hE,fun e=> tu.keep (h.2.2.1 e) hE,fun e=> tu.keep (h.2.2.2.1 e) hE,fun e=> tu.keep (h.2.2.2.2 e) hE⟩) ?_ ?_
       ·refine bQ ?_;refine ⟨?_,?_,?_,?_,?_,?_,?_,?_,?_,?_,?_,trivial⟩
        ·intro a w2 hB hF hd;refine aJ <| aD _ _ _ rfl Tryz.call157 _ pz (by simp) ((ZV.out w2).mono ?_);rintro e w3 ⟨rfl,hb⟩;exact ⟨_,rfl,⟨rfl,aK,aK,aK,aK⟩,hb⟩
        ·intro a w2 hB hF hd;exact aJ <| aO (aB rfl dU rfl dz (hF.same 10 rfl) (h10.below hB h10.lt)) ⟨rfl,aK,aK,aK,aK⟩
        ·intro a w2 hB hF hd;refine aJ <| aD _ _ _ rfl Tryz.call158 _ (args2 ((hd 0 _ rfl (aj rfl)).1) ((hd 1 _ rfl (aj rfl)).1)) (by simp) ((DV S2 HSL.out w2 ⟨_,rfl,HBF.out⟩).mono ?_);rintro e w3 ⟨u,rfl,hr,hb⟩;exact ⟨u,rfl,⟨trivial,fun _=> hr,aK,aK,aK⟩,hb⟩
        ·intro a w2 hB hF hd;exact aJ <| aO (aB rfl uH rfl Tryz.size193 (hF.same 7 rfl) (h7.below hB h7.lt)) ⟨rfl,aK,aK,aK,aK⟩
        ·intro a w2 hB hF hd;exact aJ <| aO (aB rfl dU rfl dz (hF.same 11 rfl) (h11.below hB h11.lt)) ⟨rfl,aK,aK,aK,aK⟩
        ·intro a w2 hB hF hd;refine aJ <| aD _ _ _ rfl Tryz.call158 _ (args2 ((hd 3 _ rfl (aj rfl)).1) ((hd 4 _ rfl (aj rfl)).1)) (by simp) ((DV K HKL.out w2 ⟨_,rfl,HPF.out⟩).mono ?_);rintro e w3 ⟨u,rfl,hr,hb⟩;exact ⟨u,rfl,⟨trivial,aK,fun _=> hr,aK,aK⟩,hb⟩
        ·intro a w2 hB hF hd;refine aJ <| aD _ _ _ rfl Tryz.call160 _ (args1 rfl) (by simp) ((aas w2 ((hd 5 _ rfl (aj rfl)).2.2.1 rfl)).mono ?_);rintro e w3 ⟨u,rfl,hr,hb⟩;exact ⟨u,rfl,⟨trivial,aK,aK,fun _=> hr,aK⟩,hb⟩
        ·intro a w2 hB hF hd;refine aJ <| aD _ _ _ rfl Tryz.call159 _ (args2 rfl rfl) (by simp) ((aat w2 ((hd 2 _ rfl (aj rfl)).2.1 rfl) ((hd 6 _ rfl (aj rfl)).2.2.2.1 rfl)).mono ?_);rintro e w3 ⟨u,rfl,hr,hb⟩;exact ⟨u,rfl,⟨trivial,aK,aK,aK,fun _=> hr⟩,hb⟩
        ·intro a w2 hB hF hd;refine aJ <| aD _ _ _ rfl Tryz.call161 _ (args1 rfl) (by simp) (((HD.out▸zx w2 ((hd 7 _ rfl (aj rfl)).2.2.2.2 rfl))).mono ?_);rintro e w3 ⟨rfl,hb⟩;exact ⟨_,rfl,⟨rfl,aK,aK,aK,aK⟩,hb⟩
        ·intro a w2 hB hF hd;exact aJ <| aO (aB rfl dU rfl dz (hF.same 9 rfl) (h9.below hB h9.lt)) ⟨rfl,aK,aK,aK,aK⟩
        ·intro a w2 hB hF hd;exact aJ <| aO (jU false rfl ((hd 8 _ rfl (aj rfl)).1) ((hd 9 _ rfl (aj rfl)).1) dU (by kernel_rfl) (by kernel_rfl) (by kernel_rfl) (by kernel_rfl) (by kernel_rfl) HQ.out) ⟨rfl,aK,aK,aK,aK⟩
       ·intro a w9 hB hF hS;obtain ⟨x41,Gm⟩:∃x,x=a.tmps.getD 41 undef:=⟨_,rfl⟩
        obtain ⟨x44,Vp⟩:∃x,x=a.tmps.getD 44 undef:=⟨_,rfl⟩
        obtain ⟨x45,Gl⟩:∃x,x=a.tmps.getD 45 undef:=⟨_,rfl⟩
        obtain ⟨x46,yS⟩:∃x,x=a.tmps.getD 46 undef:=⟨_,rfl⟩
        have ha:=aI rfl rfl hF [_,_,x41,_,_,x44,x45,x46,_,_,_] rfl ⟨(hS 0 _ rfl).1,(hS 1 _ rfl).1,Gm.symm,(hS 3 _ rfl).1,(hS 4 _ rfl).1,Vp.symm,Gl.symm,yS.symm,(hS 8 _ rfl).1,(hS 9 _ rfl).1,(hS 10 _ rfl).1,trivial⟩;simp only [puts,Act.put,dH,dI,dJ] at ha;subst ha;clear Gm Vp Gl yS;clear hS hF;have hb9:=hbel.trans (hB.mono hbel.size);go_wp2;go_ret;exact ⟨_,rfl,HR.out,hb9⟩
theorem sM {n:Nat} {f g:Nat->Int} {i:Nat} (h:i<n):fH n f g i=f i:=by unfold fH;rw [if_pos h]
theorem nV {n:Nat} {f g:Nat->Int} (i:Nat):fH n f g (n+i)=g i:=by unfold fH;rw [if_neg (by omega),show n+i - n=i by omega]
theorem afn:(256:Int) ^ 32=2 ^ 256:=by decide
theorem Ia (X:Int) (g:Nat->Int) (h0:0<=X) (h1:X<2 ^ 256):tZ (fH 32 (dg 256 X) g)=X:=by
 unfold tZ;rw [gB (g:=dg 256 X) (fun i hi=> sM hi),jF (by decide),sS h0 (by rw [afn];exact h1)]
theorem SH (f:Nat->Int) (S:Nat) (h:S<2 ^ 256):qz (fH 32 f (dg 256 (S:Int)))=S:=by
 unfold qz;rw [gB (g:=dg 256 (S:Int)) (fun i _=> nV i),jF (by decide),sS (by omega) (by rw [afn];omega)];exact EM S
theorem Fg (P f:Nat->Int) (n:Nat):0<=Cx P f n/\Cx P f n<2 ^ 256:=qh _
theorem PI (A:Nat) (P U f:Nat->Int) (n:Nat):Bp.mul (Fa A P U f n)=((Bp.mul A).mul (Fb P U f n)).add (Bp.mul (Cw P f n)):=by
 unfold Fa;rw [EI,Ed.mul_add,EI,Nat.mul_comm,Ed.nN]
theorem KU (p q:Ed C7):(p.add q).add p.neg=q:=by
 rw [Ed.add_comm p q,Ed.add_assoc,Ed.add_neg,Ed.add_zero]
theorem XJ (U:Int) (P f g:Nat->Int) (n:Nat):Lv U n f (fH 32 (dg 256 (Cx P f n)) g)=Fb P (dg 256 U) f n:=by
 unfold Lv Fb;rw [Ia _ _ (Fg P f n).1 (Fg P f n).2]
theorem SG {S:Int} {n:Nat} {f:Nat->Int} {c:Int} (h:Xk (Hr S) n f 64 (DN S f n) c):c=0:=by
 have h1:=(h.2 rfl).2 (Bp.mul (PS S)) rfl;have hS:qz (DN S f n)=Fa (PS S) (TH S) (dg 256 (Hr S)) f n:=SH _ _ (Nat.lt_trans (Ob _ _ _ _ _) (by decide));have hF:tZ (DN S f n)=Cx (TH S) f n:=Ia _ _ (Fg _ _ _).1 (Fg _ _ _).2;refine (h1.2 (by rw [hS];exact Ob _ _ _ _ _)).1 ?_;unfold Ck;rw [hS,hF];unfold DN PL;rw [XJ,PI,KU]
 rfl
theorem aao (S:Int) (f:Nat->Int) (n i:Nat):0<=DN S f n i/\DN S f n i<256:=by
 unfold DN PL fH
 split
 ·exact aX (by decide) _ _
 ·exact aX (by decide) _ _
theorem aan (S:Int):0<=Hr S/\Hr S<2 ^ 256:=qh _
theorem Tz (S:Int) (t s:Value) (n:Nat) (f:Nat->Int) (w:World) (ht:Rd .u8 w t n f) (hs:Rd .u8 w s 64 (DN S f n)) (hn:n<=900000) (hf:∀i,i<n->0<=f i/\f i<256):
  Calls Tryz.prog 104 #[.agg (arr .u8 32 (dg 256 (Hr S))),t,s] w fun e w'=> e=.returned (.int .i64 0)/\Below w.heap.size w w':=by
 refine (Fh (Hr S) (aan S).1 (aan S).2 t s n 64 f (DN S f n) w ht hs hn hf (fun i _=> aao S f n i)).mono ?_;rintro e w' ⟨c,rfl,hc,hb⟩;obtain rfl:=SG hc;exact ⟨rfl,hb⟩
end Go.Proofs.YtpcjekgfnfjbpaaGreat
