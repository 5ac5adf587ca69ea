/-
  Part 45 of SuiteNone. Conditions: named in each theorem.
-/
import Derived.Test.YtpcjekgfnfjbpaaGreatPkSuiteNone44
import Derived.Test.YtpcjekgfnfjbpaaGreatPkSuiteNone20
set_option linter.unusedVariables false
set_option linter.unusedSimpArgs false
set_option maxRecDepth 100000
set_option maxHeartbeats 3200000
namespace Go.Proofs.YtpcjekgfnfjbpaaGreat
open Go.RowKit Go.bI
attribute [local go_sem ↓] Go.wp_at_zero Go.wp_at_succ
theorem Qn (X:Int) (m:Nat):once (2 * (X / 2 ^ (m+1) % Q)+X / 2 ^ m % 2)=X / 2 ^ m % Q:=by
 have h:=half X m
 generalize X / 2 ^ (m+1)=Y at h
 generalize X / 2 ^ m=Z at h
 unfold once Q
 split<;> omega
theorem MB (Y b:Int) (hb:0<=b/\b<=1):0<=2 * (Y % Q)+b/\2 * (Y % Q)+b<65536 ^ 17:=by
 have h1:=Int.emod_nonneg Y (by decide:Q≠0);have h2:=BI Y (by decide:0<Q);have h3:(2:Int) * Q<65536 ^ 17:=by decide
 omega
theorem wP (v:Value) (n:Nat) (f:Nat->Int) (w:World) (hv:Rd .u8 w v n f) (hf:∀i,i<n->0<=f i/\f i<256) (hn:n<=1000):
  Calls Tryz.prog 253 #[v] w fun e w'=>
   e=.returned (.agg (arr .u32 17 (dg 65536 (sm 256 f n % Q))))/\Below w.heap.size w w':=by
 obtain ⟨a1,c1,rfl,l1,m1,z1,h1⟩:=hv;have HF:=ak hf;have H1:=ak h1;have hw8:IntKind.i64.wrap (8 * (n:Int))=8 * n:=gU (by omega) (by omega);have hw9:IntKind.i64.wrap (8 * (n:Int) - 1)=8 * n - 1:=gU (by omega) (by omega);have hs:=jK (B:=256) (by decide) HF.out;obtain ⟨X,hX⟩:∃X,X=sm 256 f n:=⟨_,rfl⟩
 have hX0:Hid (∀i,i<n->dg 256 X i=f i):=by unfold Hid;rw [hX];exact rF (by decide) HF.out
 have hXb:Hid (X / 2 ^ (8 * n)=0):=by
  unfold Hid;rw [hX,Int.pow_mul];exact Int.ediv_eq_zero_of_lt hs.1 hs.2
 have hX1:Hid (X=X / 2 ^ 0):=by unfold Hid;simp
 rw [<-hX];have HX:=ak hX;clear h1 z1 hf hs hX
 go_enter Tryz.func253,Tryz.ntmps253
 go_wp2
 go_loopw [4] (fun i wr=> ∃k:Nat,k<=8 * n/\i=.int .i64 ((k:Int) - 1)/\aH .u32 wr w.heap.size 17 (fun _=> 0)/\aH .u32 wr (w.heap.size+1) 17 (dg 65536 (X / 2 ^ k % Q))/\Below w.heap.size w wr) (fun i _=> (intOf i+1).toNat)
 case atStart=> exact ⟨8 * n,bB _,by go_num,aH.alloc (bG (by first | omega | (simp<;> omega)) (by rfl)) _,by rw [hXb.out];exact bG (by first | omega | (simp<;> omega)) (by rfl),((bM _ _).alloc (bB _) _).alloc (by simp) _⟩
 case round=>
  obtain ⟨k,hk,rfl,hZ,hA,hbel⟩:=hrel;obtain _ | m:=k
  ·go_wp2_with (first
    | (refine aM rfl 251 _ rfl .u32 (w.heap.size+1) 17 _ 117 Df uI rfl hA ?_)
    | (refine aF rfl 251 _ _ rfl .u32 w.heap.size 17 (fun _=> 0) _ uI rfl rfl hZ ?_))
   refine bodyPost_ret (aZ rfl _ _ .u32 w.heap.size 17 _ 117 rfl (hZ.setRow _ _) Df uI) rfl ⟨?_,aA hbel (bB _) _⟩;rw [<-hX1.out]
  ·have Si:m / 8<n:=by omega
   obtain ⟨b,off,rfl,s1,hcell⟩:=H1.out (by omega);have Zl:m % 8<8:=Nat.mod_lt _ (by decide);have hfm:=HF.out (m / 8) Si;have hkm:((m+1:Nat):Int) - 1=(m:Int):=by omega
   rw [hkm];have hq:IntKind.i64.wrap (Int.tdiv (m:Int) 8)=((m / 8:Nat):Int):=by rw [Int.tdiv_eq_ediv_of_nonneg (by omega),gU] <;> omega
   have hr:Int.tmod (m:Int) 8=((m % 8:Nat):Int):=by rw [Int.tmod_eq_emod_of_nonneg (by omega)];omega
   have hc:IntKind.u64.wrap ((m % 8:Nat):Int)=((m % 8:Nat):Int):=jf (by omega) (by omega);have hsh:=wh (x:=f (m / 8)) (m % 8) Zl;have hand:bits .and .u8 (f (m / 8) / 2 ^ (m % 8)) 1=X / 2 ^ m % 2:=by
    rw [rM (Int.ediv_nonneg hfm.1 (Int.le_of_lt (gD (by decide) _))) (Int.lt_of_le_of_lt (Int.ediv_le_self _ hfm.1) hfm.2),GQ X m,hX0.out _ Si]
   have hbit:0<=X / 2 ^ m % 2/\X / 2 ^ m % 2<=1:=by omega
   have hcv:IntKind.u32.wrap (X / 2 ^ m % 2)=X / 2 ^ m % 2:=gI (by omega) (by omega);have hpl:off+((m / 8:Nat):Int).toNat=off+m / 8:=by rw [EM]
   have hce:=hcell (m / 8) Si;have ajD:=(hbel.cell (p:=⟨b,off+m / 8,none⟩) s1).trans hce;have hbw:=uK s1 hbel.size;have hcond:(0:Int)<=(m:Int):=by omega
   have HX0:=ak hq;go_wp2_with fail
   refine fJ (n:=28) 14 rfl (by decide) (by kernel_rfl) (by kernel_rfl) (by kernel_rfl) (by kernel_rfl) rfl
    (fun ii vv _=> (match ii with | 0=> vv=.agg (arr .u32 17 (dg 65536 (X / 2 ^ (m+1) % Q))) | 1=> vv=.slice (some ⟨b,off,none⟩) n c1 | 2 | 6=> vv=.int .i64 ((m:Int)) | 3=> vv=.int .i64 ((m / 8:Nat)) | 4=> vv=.pointer (some ⟨b,off+m / 8,none⟩) | 5=> vv=.int .u8 (f (m / 8)) | 7=> vv=.int .i64 ((m % 8:Nat)) | 8=> vv=.int .u64 ((m % 8:Nat)) | 9=> vv=.int .u8 (f (m / 8) / 2 ^ (m % 8)) | 10=> vv=.int .u8 (X / 2 ^ m % 2) | 11=> vv=.int .u32 (X / 2 ^ m % 2) | 12=> vv=.agg (arr .u32 17 (dg 65536 (2 * (X / 2 ^ (m+1) % Q)+X / 2 ^ m % 2))) | 13=> vv=.agg (arr .u32 17 (dg 65536 (once (2 * (X / 2 ^ (m+1) % Q)+X / 2 ^ m % 2)))) | _=> True))
    (fun w w'=> Below w.heap.size w w') (fun _ _ h=> h) (fun _ _ _ _ h _=> h) rfl ?_ ?_
   ·refine bQ ?_;refine ⟨?_,?_,?_,?_,?_,?_,?_,?_,?_,?_,?_,?_,?_,?_,(fun h=> absurd rfl h),trivial⟩
    ·intro _ a w2 hB hF hd;exact aJ <| aO (aB rfl Df rfl uI (hF.same 3 rfl) (hA.below hB hA.lt)) rfl
    ·intro _ a w2 hB hF hd;exact aJ <| fq rfl (hF.same 0 rfl)
    ·intro _ a w2 hB hF hd;exact aJ <| fq rfl (hF.same 4 rfl)
    ·intro _ a w2 hB hF hd;exact aJ <| aO (Go.bI.zw rfl (hd 2 _ rfl (aj rfl)) rfl (by decide)) (congrArg (Value.int .i64) (hq))
    ·intro _ a w2 hB hF hd;exact aJ <| aO (qp rfl (hd 1 _ rfl (aj rfl)) (hd 3 _ rfl (aj rfl)) kN (by kernel_rfl) (by omega) (by omega)) (congrArg (fun z=> Value.pointer (some ⟨b,z,none⟩)) hpl)
    ·intro _ a w2 hB hF hd;exact aJ <| aO (aU rfl (hd 4 _ rfl (aj rfl)) Tryz.underlying5 ((hB.cell (p:=⟨b,off+m / 8,none⟩) hbw).trans ajD)) rfl
    ·intro _ a w2 hB hF hd;exact aJ <| fq rfl (hF.same 4 rfl)
    ·intro _ a w2 hB hF hd;exact aJ <| aO (Go.bI.zu rfl (hd 6 _ rfl (aj rfl)) rfl (by decide)) (congrArg (Value.int .i64) (hr))
    ·intro _ a w2 hB hF hd;exact aJ <| aO (mP rfl (hd 7 _ rfl (aj rfl)) Tryz.underlying3 Tryz.underlying212) (congrArg (Value.int .u64) (hc))
    ·intro _ a w2 hB hF hd;exact aJ <| aO (Go.bI.pQ rfl (hd 5 _ rfl (aj rfl)) (hd 8 _ rfl (aj rfl)) (by omega)) (congrArg (Value.int .u8) (hsh))
    ·intro _ a w2 hB hF hd;exact aJ <| aO (Go.bI.kr rfl (hd 9 _ rfl (aj rfl)) rfl) (congrArg (Value.int .u8) (hand))
    ·intro _ a w2 hB hF hd;exact aJ <| aO (mP rfl (hd 10 _ rfl (aj rfl)) Tryz.underlying5 Tryz.underlying117) (congrArg (Value.int .u32) (hcv))
    ·intro _ a w2 hB hF hd;refine aJ <| aD _ _ _ rfl Tryz.call265 _ (args2 (hd 0 _ rfl (aj rfl)) (hd 11 _ rfl (aj rfl))) (by simp) ((Pj _ _ w2 hbit).mono ?_);rintro e w3 ⟨rfl,hb⟩;exact ⟨_,rfl,rfl,hb⟩
    ·intro _ a w2 hB hF hd;refine aJ <| aD _ _ _ rfl Tryz.call264 _ (args1 (hd 12 _ rfl (aj rfl))) (by simp) ((JB _ w2 (MB _ _ hbit)).mono ?_);rintro e w3 ⟨rfl,hb⟩;exact ⟨_,rfl,rfl,hb⟩
   ·intro a w2 hB hF hS;have ha:=aI rfl rfl hF [_,_,_,_,_,_,_,_,_,_,_,_,_,_,undef] rfl ⟨hS 0 _ rfl (by decide),hS 1 _ rfl (by decide),hS 2 _ rfl (by decide),hS 3 _ rfl (by decide),hS 4 _ rfl (by decide),hS 5 _ rfl (by decide),hS 6 _ rfl (by decide),hS 7 _ rfl (by decide),hS 8 _ rfl (by decide),hS 9 _ rfl (by decide),hS 10 _ rfl (by decide),hS 11 _ rfl (by decide),hS 12 _ rfl (by decide),hS 13 _ rfl (by decide),trivial,trivial⟩;simp only [puts,Act.put,dH,dI,dJ] at ha;subst ha;clear hS hF;have hA2:=hA.below hB hA.lt;have hZ2:=hZ.below hB hZ.lt;have hb2:=hbel.trans (hB.mono hbel.size);refine aW 251 _ _ rfl .u32 (w.heap.size+1) 17 _ _ uI rfl rfl hA2 ?_;have hon:=Qn X m;have HON:=ak hon;clear hon;go_wp2;go_roundw
    case rel=> exact ⟨m,by omega,by go_num,(hZ2.aC _ (by omega) _),by rw [<-HON.out];exact hA2.setRow _ _,aA hb2 (by omega) _⟩
    case measure=> simp [intOf] <;> omega
theorem Dt (v:Value) (A:Int) (n:Nat) (w:World) (hv:Rd .u8 w v n (dg 256 A)) (hn:n<=1000) (hA:0<=A/\A<256 ^ n):
  Calls Tryz.prog 253 #[v] w fun e w'=>
   e=.returned (.agg (arr .u32 17 (dg 65536 (A % Q))))/\Below w.heap.size w w':=by
 have h:=wP v n (dg 256 A) w hv (fun i _=> aX (by decide) A i) hn;rw [jF (by decide),sS hA.1 hA.2] at h;exact h
theorem ahh (v:Value) (n:Nat) (f:Nat->Int) (w:World) (hv:Rd .u8 w v n f) (hf:∀i,i<n->0<=f i/\f i<256) (hn:n<=128):
  Calls Tryz.prog 216 #[v] w fun e w'=>
   e=.returned (.tuple #[.agg (arr .u8 32 (dg 256 (sm 256 f n % Q))),.int .i64 0])/\Below w.heap.size w w':=by
 have hv2:=hv;have HV:=ak hv;obtain ⟨a1,c1,rfl,l1,m1,z1,h1⟩:=hv;have HF:=ak hf;clear h1 z1 hf hv2
 go_enter Tryz.func216,Tryz.ntmps216
 go_wp2_with fail;have hb1:Below w.heap.size w (w.alloc (.cells (arr .u8 32 (fun _=> 0)) 22)):=(bM _ _).alloc (bB _) _;have hZ1:aH .u8 (w.alloc (.cells (arr .u8 32 (fun _=> 0)) 22)) w.heap.size 32 (fun _=> 0):=bG rfl rfl;refine (wP _ n f _ (HV.out.below hb1) HF.out (by omega)).mono ?_;rintro e w2 ⟨rfl,hb2⟩;go_wp2_with fail;refine (xI _ w2).mono ?_;rintro e w3 ⟨rfl,hb3⟩;have hZ3:=(hZ1.kept hb2).kept hb3;have dQ:=hb1.trans ((hb2.mono hb1.size).trans (hb3.mono (jG hb1.size hb2.size)));clear hb1 hZ1 hb2 hb3;go_wp2_with (refine aF rfl 22 _ _ rfl .u8 w.heap.size 32 (fun _=> 0) _ dz rfl rfl hZ3 ?_);refine bodyPost_ret (eY rfl _ _ .u8 w.heap.size 32 _ 5 rfl (hZ3.setRow _ _) dU dz) rfl ⟨rfl,aA dQ (bB _) _⟩
theorem RO (C:Int) (w:World) (hC:0<=C/\C<256 ^ 32):
  Calls Tryz.prog 155 #[.agg (arr .u8 32 (dg 256 C))] w fun e w'=>
   e=.returned (.bool (decide (C<Q)))/\Below w.heap.size w w':=by
 have HC:=ak hC;clear hC
 go_enter Tryz.func155,Tryz.ntmps155
 have hA1:aH .u8 (w.alloc (.cells (arr .u8 32 (dg 256 C)) 22)) w.heap.size 32 (dg 256 C):=bG rfl rfl;have hb1:Below w.heap.size w (w.alloc (.cells (arr .u8 32 (dg 256 C)) 22)):=(bM _ _).alloc (bB _) _;go_wp2_with (refine aM rfl 22 _ rfl .u8 w.heap.size 32 _ 5 dU dz rfl hA1 ?_);refine (Av C _ HC.out).mono ?_;rintro e w2 ⟨rfl,hb2⟩;go_wp2_with fail;refine (DW w2).mono ?_;rintro e w3 ⟨rfl,hb3⟩;go_wp2_with fail;refine (Av Q w3 (by decide)).mono ?_;rintro e w4 ⟨rfl,hb4⟩;go_wp2_with fail;refine (JK C Q w4 ⟨HC.out.1,Int.lt_of_lt_of_le HC.out.2 (by decide)⟩ (by decide)).mono ?_;rintro e w5 ⟨rfl,hb5⟩;have hbel:=hb1.trans ((hb2.mono hb1.size).trans ((hb3.mono (jG hb1.size hb2.size)).trans ((hb4.mono (jG (jG hb1.size hb2.size) hb3.size)).trans (hb5.mono (jG (jG (jG hb1.size hb2.size) hb3.size) hb4.size)))));clear hb1 hb2 hb3 hb4 hb5 hA1;have hs:=hbel.size;go_wp2_with (refine aF rfl 251 _ _ rfl .u32 w5.heap.size 17 (fun _=> 0) _ uI rfl rfl (bG rfl rfl) ?_);go_ret;refine ⟨?_,aA (hbel.alloc hs _) hs _⟩;by_cases h:C<Q
 ·rw [decide_eq_false (by omega:¬ Q<=C),decide_eq_true h];rfl
 ·rw [decide_eq_true (by omega:Q<=C),decide_eq_false h];rfl
theorem Ut (A B:Int):once (A % Q+B % Q)=(A+B) % Q:=by
 unfold once Q
 split<;> omega
theorem YP (A:Int):0<=A % Q/\A % Q<Q:=⟨Int.emod_nonneg _ (by decide),BI _ (by decide)⟩
theorem Qv (A:Int):0<=A % Q/\A % Q<256 ^ 32:=⟨(YP A).1,Int.lt_trans (YP A).2 (by decide)⟩
theorem Pq (A B:Int):0<=A % Q+B % Q/\A % Q+B % Q<65536 ^ 17:=by
 have h1:=YP A;have h2:=YP B;have h3:Q+Q<65536 ^ 17:=by decide
 omega
theorem aaf (A B:Int) (w:World) (hA:0<=A/\A<256 ^ 32) (hB:0<=B/\B<256 ^ 32):
  Calls Tryz.prog 250 #[.agg (arr .u8 32 (dg 256 A)),.agg (arr .u8 32 (dg 256 B))] w fun e w'=>
   e=.returned (.agg (arr .u8 32 (dg 256 ((A+B) % Q))))/\Below w.heap.size w w':=by
 have HA:=ak hA;have HB:=ak hB;clear hA hB
 go_enter Tryz.func250,Tryz.ntmps250
 go_wp2
 refine aG (fun w1=> aH .u8 w1 w.heap.size 32 (dg 256 A)/\aH .u8 w1 (w.heap.size+1) 32 (dg 256 B)/\aH .u8 w1 (w.heap.size+2) 32 (fun _=> 0)/\Below w.heap.size w w1)
  ⟨aH.alloc (aH.alloc (bG (by first | omega | (simp<;> omega)) (by rfl)) _) _,aH.alloc (bG (by first | omega | (simp<;> omega)) (by rfl)) _,bG (by first | omega | (simp<;> omega)) (by rfl),(((bM _ _).alloc (bB _) _).alloc (by simp) _).alloc (by simp;omega) _⟩ ?_
 rintro w1 ⟨hA,hB',hZ,hbel⟩
 refine aT (n:=36) (by kernel_rfl) (by kernel_rfl) (by kernel_rfl) rfl
  (gJ [(6,4),(7,5)]) (dS [(6,4),(7,5)]) (fun _=> arr .u32 17 (fun _=> 0)) (fun i=> match i with | 4=> (arr .u32 17 (dg 65536 (A % Q))) | 5=> (arr .u32 17 (dg 65536 (B % Q))) | _=> #[]) (fun _=> 251) (fun i=> match i with | 4=> 5 | 5=> 6 | _=> 0)
  (fun ii vv _=> (match ii with | 0=> vv=.slice (some ⟨w.heap.size,0,none⟩) 32 32 | 1=> vv=.agg (arr .u32 17 (dg 65536 (A % Q))) | 2=> vv=.slice (some ⟨(w.heap.size+1),0,none⟩) 32 32 | 3=> vv=.agg (arr .u32 17 (dg 65536 (B % Q))) | _=> True)) (fun _ _=> True) (fun _ _ _=> trivial) (fun _ _ _ _ _ _ _=> trivial) (fun _ _ _ _ h _=> h)
  (eT rfl) (dA rfl) ?_ ?_ ?_ ?_
 ·refine bQ ?_;refine ⟨?_,?_,?_,?_,(fun h=> by cases h),(fun h=> by cases h),(fun _ h=> by cases h),(fun _ h=> by cases h),trivial⟩
  ·intro _ _ a w2 hB hF hd;exact aJ <| aO (cK rfl (hF.same 2 rfl) dU (by kernel_rfl)) rfl
  ·intro _ _ a w2 hB hF hd;refine aJ <| aD _ _ _ rfl Tryz.call253 _ (args1 (hd 0 _ rfl rfl rfl (aj rfl))) (by simp) ((Dt _ A 32 w2 ((hA.below hB hA.lt).rd (by decide)) (by decide) HA.out).mono ?_);rintro e w3 ⟨rfl,hb⟩;exact ⟨_,rfl,rfl,hb⟩
  ·intro _ _ a w2 hB hF hd;exact aJ <| aO (cK rfl (hF.same 3 rfl) dU (by kernel_rfl)) rfl
  ·intro _ _ a w2 hB hF hd;refine aJ <| aD _ _ _ rfl Tryz.call253 _ (args1 (hd 2 _ rfl rfl rfl (aj rfl))) (by simp) ((Dt _ B 32 w2 ((hB'.below hB hB'.lt).rd (by decide)) (by decide) HB.out).mono ?_);rintro e w3 ⟨rfl,hb⟩;exact ⟨_,rfl,rfl,hb⟩
 ·refine bQ ?_;refine ⟨(fun h=> by cases h),(fun h=> by cases h),(fun h=> by cases h),(fun h=> by cases h),?_,?_,(fun h=> by cases h),(fun h=> by cases h),trivial⟩
  ·exact fun _=> ⟨rfl,rfl,fun a w2 K h=> aP rfl rfl Tryz.zeroValue251 (by simp) h⟩
  ·exact fun _=> ⟨rfl,rfl,fun a w2 K h=> aP rfl rfl Tryz.zeroValue251 (by simp) h⟩
 ·refine bQ ?_;refine ⟨(fun _ h=> by cases h),(fun _ h=> by cases h),(fun _ h=> by cases h),(fun _ h=> by cases h),(fun _ h=> by cases h),(fun _ h=> by cases h),?_,?_,trivial⟩
  ·intro p hp;obtain rfl:4=p:=fT hp;exact ⟨rfl,rfl,⟨_,rfl⟩,aj rfl,fun a w2 b K hB hF hd hx hb h=> aY rfl rfl uI hx (hd 1 _ rfl rfl rfl (aj rfl)) hb h⟩
  ·intro p hp;obtain rfl:5=p:=fT hp;exact ⟨rfl,rfl,⟨_,rfl⟩,aj rfl,fun a w2 b K hB hF hd hx hb h=> aY rfl rfl uI hx (hd 3 _ rfl rfl rfl (aj rfl)) hb h⟩
 ·intro a w2 blk hB hF hS hv hfin bU;obtain ⟨v4,Hq,LA⟩:=hv 4 _ rfl rfl;obtain ⟨v5,uU,Dl⟩:=hv 5 _ rfl rfl;have ha:=aI rfl rfl hF [_,_,_,_,_,_,undef,undef] rfl ⟨hS 0 _ rfl rfl rfl,hS 1 _ rfl rfl rfl,hS 2 _ rfl rfl rfl,hS 3 _ rfl rfl rfl,v4,v5,trivial,trivial,trivial⟩;have f4:=hfin 6 _ 4 rfl rfl;have f5:=hfin 7 _ 5 rfl rfl;have Bc:=bU 4 5 _ _ rfl rfl rfl rfl (by decide);simp only [puts,Act.put,dH,dI,dJ] at ha;subst ha;have V4:aH .u32 w2 (blk 4) 17 (dg 65536 (A % Q)):=⟨_,f4⟩
  have V5:aH .u32 w2 (blk 5) 17 (dg 65536 (B % Q)):=⟨_,f5⟩
  clear hS hv hfin bU hF v4 v5 f4 f5;have hA2:=hA.below hB hA.lt;have hZ2:=hZ.below hB hZ.lt;have ajI:=hZ.lt;have hb2:=hbel.trans (hB.mono hbel.size);have hs1:=hbel.size;obtain ⟨x,hx⟩:∃x,x=blk 4:=⟨_,rfl⟩
  obtain ⟨y,hy⟩:∃y,y=blk 5:=⟨_,rfl⟩
  rw [<-hx] at V4 Bc Hq LA ⊢;rw [<-hy] at V5 Bc uU Dl ⊢;clear hx hy hA hB' hZ hB hbel hA2;have hxy:x≠y:=Bc;go_wp2
  go_loopw [7,14] (fun c i wr=> ∃(k:Nat) (z:Int),k<=17/\z=Nt (A % Q) (B % Q) k/\0<=z/\z<=1/\c=.int .u32 z/\i=.int .i64 k/\aH .u32 wr x 17 (upto k (dg 65536 (A % Q+B % Q)) (dg 65536 (A % Q)))/\aH .u32 wr y 17 (dg 65536 (B % Q))/\aH .u8 wr (w.heap.size+2) 32 (fun _=> 0)/\Below w.heap.size w wr) (fun _ i _=> 17 - (intOf i).toNat)
  case atStart=> exact ⟨0,0,je _,(Rk _ _).symm,by decide,by decide,rfl,rfl,by rw [cZ];exact V4,V5,hZ2,hb2⟩
  case round=>
   obtain ⟨k,z,hk,hc,hc0,hc1,rfl,rfl,hX,hY,hZ,hbel⟩:=hrel;have HC:=ak hc;clear hc;by_cases hlt:k<17
   ·have e1:=hX.cell k hlt;rw [upto_at] at e1;have e2:=hY.cell k hlt;have f1:=hX.free k;have HX:=ak hX;have HY:=ak hY;have HZ:=ak hZ;obtain ⟨b0,b1⟩:=aX (by decide:(0:Int)<65536) (A % Q) k;obtain ⟨b2,b3⟩:=aX (by decide:(0:Int)<65536) (B % Q) k;have hand:=xL (x:=dg 65536 (A % Q) k+dg 65536 (B % Q) k+z) (by omega) (by omega);have hst:=Rl (A % Q) (B % Q) k;rw [<-HC.out] at hst;obtain ⟨s1,s2⟩:=hst;have S1:=ak s1;have S2:=ak s2;have hw1:=gI (x:=dg 65536 (A % Q) k+dg 65536 (B % Q) k) (by omega) (by omega);have hw2:=gI (x:=dg 65536 (A % Q) k+dg 65536 (B % Q) k+z) (by omega) (by omega);clear hX hY hZ s1 s2;go_wp2
    go_quiet (fail)
    go_wp2;go_roundw
    case rel=> exact ⟨k+1,_,by omega,S2.out,by omega,by omega,rfl,by go_num,by rw [<-bN S1.out];exact (HX.out.drewN _).set k _,(HY.out.drewN _).other (by first | omega | (simp<;> omega)) _,(HZ.out.drewN _).other (by first | omega | (simp<;> omega)) _,(below_drewN hbel _).setCell (by first | omega | (simp<;> omega)) _⟩
    case measure=> simp [intOf] <;> omega
   ·obtain rfl:k=17:=by omega
    go_wp2_with (refine aM rfl 251 _ rfl .u32 x 17 _ 117 Df uI rfl hX ?_);rw [eF (dK _ _ (bB _))];refine (JB _ _ (Pq A B)).mono ?_;rintro e w3 ⟨rfl,hb3⟩;go_wp2_with fail;refine (xI _ _).mono ?_;rintro e w4 ⟨rfl,hb4⟩;have ny:=(hZ.kept hb3).kept hb4;have hb5:=hbel.trans ((hb3.mono hbel.size).trans (hb4.mono (jG hbel.size hb3.size)));clear hb3 hb4 hX hY hZ;go_wp2_with (refine aF rfl 22 _ _ rfl .u8 (w.heap.size+2) 32 (fun _=> 0) _ dz rfl rfl ny ?_);refine bodyPost_ret (aZ rfl _ _ .u8 (w.heap.size+2) 32 _ 5 rfl (ny.setRow _ _) dU dz) rfl ⟨by rw [Ut],aA hb5 (by omega) _⟩
theorem EZ (B:Int) (f:Nat->Int) (p:Nat) (v:Int):∀n,sm B (upd f p v) n=sm B f n+(if p<n then (v - f p) * B ^ p else 0)
 | 0=> by simp [sm]
 | n+1=> by
  rw [sm,sm,EZ B f p v n];by_cases e:n=p
  ·subst e;rw [if_neg (by omega),if_pos (by omega),show upd f n v n=v from if_pos rfl,Int.sub_mul];omega
  ·rw [show upd f p v n=f n from if_neg (by omega)];by_cases h:p<n
   ·rw [if_pos h,if_pos (by omega)];omega
   ·rw [if_neg h,if_neg (by omega)];omega
def BO (t x y:Nat->Int) (i j:Nat):Prop:=
 sm 65536 t 34=sm 65536 x i * sm 65536 y 17+x i * 65536 ^ i * sm 65536 y j/\
 ∀k,0<=t k/\(k<i+j->t k<=(i+1) * 4294836225)/\(i+j<=k->t k<=i * 4294836225)
theorem Tv (B:Int):∀n,sm B (fun _=> 0) n=0
 | 0=> rfl
 | n+1=> by rw [sm,Tv B n];simp
theorem BO.zero (x y:Nat->Int):BO (fun _=> 0) x y 0 0:=by
 refine ⟨?_,fun k=> ⟨by simp,fun h=> by simp,fun h=> by simp⟩⟩;rw [Tv,show sm 65536 x 0=0 from rfl,show sm 65536 y 0=0 from rfl];simp
theorem BO.row {t x y:Nat->Int} {i:Nat} (h:BO t x y i 17):BO t x y (i+1) 0:=by
 refine ⟨?_,fun k=> ⟨(h.2 k).1,fun hk=> ?_,fun hk=> ?_⟩⟩
 ·rw [h.1,show sm 65536 x (i+1)=sm 65536 x i+x i * 65536 ^ i from rfl,show sm 65536 y 0=0 from rfl,Int.add_mul,Int.mul_zero,Int.add_zero]
 ·have h1:=(h.2 k).2.1;have:=h1 (by omega);push_cast;omega
 ·have h1:=(h.2 k).2.1;have h2:=(h.2 k).2.2;rcases Nat.lt_or_ge k (i+17) with h' | h'
  ·have:=h1 h';push_cast;omega
  ·have:=h2 h';push_cast;omega
theorem UG {a b:Int} (h0:0<=a) (h1:a<=65535) (h2:0<=b) (h3:b<=65535):0<=a * b/\a * b<=4294836225:=by
 refine ⟨Int.mul_nonneg h0 h2,?_⟩;have:=Int.mul_le_mul h1 h3 h2 (by decide:(0:Int)<=65535);omega
theorem BO.step {t x y:Nat->Int} {i j:Nat} (h:BO t x y i j) (hi:i<17) (hj:j<17) (hx:0<=x i/\x i<65536) (hy:0<=y j/\y j<65536):BO (upd t (i+j) (t (i+j)+x i * y j)) x y i (j+1):=by
 have hm:=UG hx.1 (by omega) hy.1 (by omega);refine ⟨?_,fun k=> ?_⟩
 ·rw [EZ,if_pos (by omega),h.1,show sm 65536 y (j+1)=sm 65536 y j+y j * 65536 ^ j from rfl,show t (i+j)+x i * y j - t (i+j)=x i * y j by omega,Int.pow_add,Int.mul_add];have:x i * y j * (65536 ^ i * 65536 ^ j)=x i * 65536 ^ i * (y j * 65536 ^ j):=by
   rw [Int.mul_assoc,Int.mul_assoc,←Int.mul_assoc (y j),Int.mul_comm (y j),Int.mul_assoc]
  omega
 ·by_cases e:k=i+j
  ·subst e;have h1:=(h.2 (i+j)).1;have h2:=(h.2 (i+j)).2.2 (bB _);rw [show upd t (i+j) (t (i+j)+x i * y j) (i+j)=t (i+j)+x i * y j from if_pos rfl];exact ⟨by omega,fun _=> by omega,fun hk=> by omega⟩
  ·rw [show upd t (i+j) (t (i+j)+x i * y j) k=t k from if_neg e];exact ⟨(h.2 k).1,fun hk=> (h.2 k).2.1 (by omega),fun hk=> (h.2 k).2.2 (by omega)⟩
def BL (t o:Nat->Int) (k:Nat) (c:Int):Prop:=
 sm 256 o (2 * k)+c * 65536 ^ k=sm 65536 t k/\(∀i,i<2 * k->0<=o i/\o i<256)/\0<=c/\c<=2000000000000
theorem BL.zero (t o:Nat->Int):BL t o 0 0:=⟨by simp [sm],fun i hi=> by omega,by decide,by decide⟩
theorem BL.step {t o:Nat->Int} {k:Nat} {c:Int} (h:BL t o k c) (ht:0<=t k/\t k<=77307052050):
  BL t (upd (upd o (2 * k) ((t k+c) % 256)) (2 * k+1) ((t k+c) / 256 % 256)) (k+1) ((t k+c) / 65536):=by
 obtain ⟨h1,h2,h3,h4⟩:=h;refine ⟨?_,fun i hi=> ?_,by omega,by omega⟩
 ·rw [show 2 * (k+1)=2 * k+1+1 by omega];rw [sm,sm,EZ,EZ,if_neg (by omega),if_neg (by omega)];rw [show upd (upd o (2 * k) ((t k+c) % 256)) (2 * k+1) ((t k+c) / 256 % 256) (2 * k)=(t k+c) % 256 by unfold upd;rw [if_neg (by omega),if_pos rfl]];rw [show upd (upd o (2 * k) ((t k+c) % 256)) (2 * k+1) ((t k+c) / 256 % 256) (2 * k+1)=(t k+c) / 256 % 256 by unfold upd;rw [if_pos rfl]];rw [sm,←h1,show (256:Int) ^ (2 * k)=65536 ^ k by rw [Int.pow_mul];rfl,Int.pow_succ,show (256:Int) ^ (2 * k)=65536 ^ k by rw [Int.pow_mul];rfl,Int.pow_succ]
  generalize (65536:Int) ^ k=p
  have e:t k+c=(t k+c) % 256+(t k+c) / 256 % 256 * 256+(t k+c) / 65536 * 65536:=by omega
  have e2:t k * p+c * p=((t k+c) % 256) * p+((t k+c) / 256 % 256 * 256) * p+((t k+c) / 65536 * 65536) * p:=by rw [<-Int.add_mul,←Int.add_mul,←Int.add_mul,←e]
  rw [Int.mul_comm p 256,←Int.mul_assoc,Int.mul_comm p 65536,←Int.mul_assoc];omega
 ·unfold upd
  split
  ·omega
  ·split
   ·omega
   ·exact h2 i (by omega)
theorem BL.done {t o:Nat->Int} {c X:Int} (h:BL t o 34 c) (hX:sm 65536 t 34=X) (hb:0<=X/\X<65536 ^ 34):sm 256 o 68=X:=by
 obtain ⟨h1,h2,h3,h4⟩:=h;have hs:=jK (by decide:(0:Int)<256) h2;rw [hX] at h1;rw [show (68:Nat)=2 * 34 from rfl]
 generalize sm 256 o (2 * 34)=s at *
 have:c=0:=by omega
 subst this;omega
theorem ZN (A B:Int) (w:World) (hA:0<=A/\A<256 ^ 32) (hB:0<=B/\B<256 ^ 32):
  Calls Tryz.prog 251 #[.agg (arr .u8 32 (dg 256 A)),.agg (arr .u8 32 (dg 256 B))] w fun e w'=>
   e=.returned (.agg (arr .u8 32 (dg 256 (A * B % Q))))/\Below w.heap.size w w':=by
 have HA:=ak hA;have HB:=ak hB;clear hA hB
 go_enter Tryz.func251,Tryz.ntmps251
 go_wp2
 refine aG (fun w1=> aH .u8 w1 w.heap.size 32 (dg 256 A)/\aH .u8 w1 (w.heap.size+1) 32 (dg 256 B)/\aH .u8 w1 (w.heap.size+2) 32 (fun _=> 0)/\Below w.heap.size w w1)
  ⟨aH.alloc (aH.alloc (bG (by first | omega | (simp<;> omega)) (by rfl)) _) _,aH.alloc (bG (by first | omega | (simp<;> omega)) (by rfl)) _,bG (by first | omega | (simp<;> omega)) (by rfl),(((bM _ _).alloc (bB _) _).alloc (by simp) _).alloc (by simp;omega) _⟩ ?_
 rintro w1 ⟨hA,hB',hZ,hbel⟩
 refine aT (n:=70) (by kernel_rfl) (by kernel_rfl) (by kernel_rfl) rfl
  (gJ [(6,4),(7,5)]) (dS [(6,4),(7,5)]) (fun _=> arr .u32 17 (fun _=> 0)) (fun i=> match i with | 4=> (arr .u32 17 (dg 65536 A)) | 5=> (arr .u32 17 (dg 65536 B)) | _=> #[]) (fun _=> 251) (fun i=> match i with | 4=> 5 | 5=> 6 | _=> 0)
  (fun ii vv _=> (match ii with | 0=> vv=.agg (arr .u8 32 (dg 256 A)) | 1=> vv=.agg (arr .u32 17 (dg 65536 A)) | 2=> vv=.agg (arr .u8 32 (dg 256 B)) | 3=> vv=.agg (arr .u32 17 (dg 65536 B)) | _=> True)) (fun _ _=> True) (fun _ _ _=> trivial) (fun _ _ _ _ _ _ _=> trivial) (fun _ _ _ _ h _=> h)
  (eT rfl) (dA rfl) ?_ ?_ ?_ ?_
 ·refine bQ ?_;refine ⟨?_,?_,?_,?_,(fun h=> by cases h),(fun h=> by cases h),(fun _ h=> by cases h),(fun _ h=> by cases h),trivial⟩
  ·intro _ _ a w2 hB hF hd;exact aJ <| aO (aB rfl dU rfl dz (hF.same 2 rfl) (hA.below hB hA.lt)) rfl
  ·intro _ _ a w2 hB hF hd;refine aJ <| aD _ _ _ rfl Tryz.call213 _ (args1 (hd 0 _ rfl rfl rfl (aj rfl))) (by simp) ((Av A w2 HA.out).mono ?_);rintro e w3 ⟨rfl,hb⟩;exact ⟨_,rfl,rfl,hb⟩
  ·intro _ _ a w2 hB hF hd;exact aJ <| aO (aB rfl dU rfl dz (hF.same 3 rfl) (hB'.below hB hB'.lt)) rfl
  ·intro _ _ a w2 hB hF hd;refine aJ <| aD _ _ _ rfl Tryz.call213 _ (args1 (hd 2 _ rfl rfl rfl (aj rfl))) (by simp) ((Av B w2 HB.out).mono ?_);rintro e w3 ⟨rfl,hb⟩;exact ⟨_,rfl,rfl,hb⟩
 ·refine bQ ?_;refine ⟨(fun h=> by cases h),(fun h=> by cases h),(fun h=> by cases h),(fun h=> by cases h),?_,?_,(fun h=> by cases h),(fun h=> by cases h),trivial⟩
  ·exact fun _=> ⟨rfl,rfl,fun a w2 K h=> aP rfl rfl Tryz.zeroValue251 (by simp) h⟩
  ·exact fun _=> ⟨rfl,rfl,fun a w2 K h=> aP rfl rfl Tryz.zeroValue251 (by simp) h⟩
 ·refine bQ ?_;refine ⟨(fun _ h=> by cases h),(fun _ h=> by cases h),(fun _ h=> by cases h),(fun _ h=> by cases h),(fun _ h=> by cases h),(fun _ h=> by cases h),?_,?_,trivial⟩
  ·intro p hp;obtain rfl:4=p:=fT hp;exact ⟨rfl,rfl,⟨_,rfl⟩,aj rfl,fun a w2 b K hB hF hd hx hb h=> aY rfl rfl uI hx (hd 1 _ rfl rfl rfl (aj rfl)) hb h⟩
  ·intro p hp;obtain rfl:5=p:=fT hp;exact ⟨rfl,rfl,⟨_,rfl⟩,aj rfl,fun a w2 b K hB hF hd hx hb h=> aY rfl rfl uI hx (hd 3 _ rfl rfl rfl (aj rfl)) hb h⟩
 ·intro a w2 blk hB hF hS hv hfin bU;obtain ⟨v4,Hq,LA⟩:=hv 4 _ rfl rfl;obtain ⟨v5,uU,Dl⟩:=hv 5 _ rfl rfl;have ha:=aI rfl rfl hF [_,_,_,_,_,_,undef,undef] rfl ⟨hS 0 _ rfl rfl rfl,hS 1 _ rfl rfl rfl,hS 2 _ rfl rfl rfl,hS 3 _ rfl rfl rfl,v4,v5,trivial,trivial,trivial⟩;have f4:=hfin 6 _ 4 rfl rfl;have f5:=hfin 7 _ 5 rfl rfl;have Bc:=bU 4 5 _ _ rfl rfl rfl rfl (by decide);simp only [puts,Act.put,dH,dI,dJ] at ha;subst ha;have V4:aH .u32 w2 (blk 4) 17 (dg 65536 A):=⟨_,f4⟩
  have V5:aH .u32 w2 (blk 5) 17 (dg 65536 B):=⟨_,f5⟩
  clear hS hv hfin bU hF v4 v5 f4 f5;have hA2:=hA.below hB hA.lt;have hZ2:=hZ.below hB hZ.lt;have ajI:=hZ.lt;have hb2:=hbel.trans (hB.mono hbel.size);have hs1:=hbel.size;obtain ⟨x,hx⟩:∃x,x=blk 4:=⟨_,rfl⟩
  obtain ⟨y,hy⟩:∃y,y=blk 5:=⟨_,rfl⟩
  rw [<-hx] at V4 Bc Hq LA ⊢;rw [<-hy] at V5 Bc uU Dl ⊢;clear hx hy hA hB' hZ hB hbel hA2 Bc;go_wp2_with (refine aM rfl 251 _ rfl .u32 x 17 _ 117 Df uI rfl (aH.alloc V4 _) ?_)
  go_loopw [21] (fun i wr=> ∃(k:Nat) (t:Nat->Int),k<=17/\i=.int .i64 k/\BO t (dg 65536 A) (dg 65536 B) k 0/\aH .u32 wr y 17 (dg 65536 B)/\aH .u64 wr w2.heap.size 34 t/\aH .u8 wr (w.heap.size+2) 32 (fun _=> 0)/\Below w.heap.size w wr) (fun i _=> 17 - (intOf i).toNat)
  case atStart=> exact ⟨0,_,je _,rfl,BO.zero _ _,aH.alloc V5 _,bG rfl (by rfl),aH.alloc hZ2 _,hb2.alloc hb2.size _⟩
  case round=>
   obtain ⟨k,t,hk,rfl,hC,hY,hT,hZ,hbel⟩:=hrel;by_cases hlt:k<17
   ·have hix:=dY (f:=dg 65536 A) Df Tryz.underlying117 Tryz.size117 k hlt;have HCC:=ak hC;clear hC;go_wp2_with (refine aM rfl 251 _ rfl .u32 y 17 _ 117 Df uI rfl hY ?_);have HY:=ak hY;have HT:=ak hT;have HZ:=ak hZ;have ale:=ak hbel;clear hY hT hZ hbel hix
    go_loopw [26] (fun i wr=> ∃(j:Nat) (t:Nat->Int),j<=17/\i=.int .i64 j/\BO t (dg 65536 A) (dg 65536 B) k j/\aH .u32 wr y 17 (dg 65536 B)/\aH .u64 wr w2.heap.size 34 t/\aH .u8 wr (w.heap.size+2) 32 (fun _=> 0)/\Below w.heap.size w wr) (fun i _=> 17 - (intOf i).toNat)
    case atStart=> exact ⟨0,_,je _,rfl,HCC.out,HY.out,HT.out,HZ.out,ale.out⟩
    case round=>
     obtain ⟨j,u,hj,rfl,hC,hY,hT,hZ,hbel⟩:=hrel;by_cases hjt:j<17
     ·have hiy:=dY (f:=dg 65536 B) Df Tryz.underlying117 Tryz.size117 j hjt;have e1:=hT.cell (k+j) (by omega);have f1:=hT.free (k+j);obtain ⟨b0,b1⟩:=aX (by decide:(0:Int)<65536) A k;obtain ⟨b2,b3⟩:=aX (by decide:(0:Int)<65536) B j;obtain ⟨m0,m1⟩:=UG b0 (by omega) b2 (by omega);obtain ⟨u0,_,u1⟩:=hC.2 (k+j);have u2:=u1 (bB _);have hwm:=jf m0 (by omega);have hws:=jf (x:=u (k+j)+dg 65536 A k * dg 65536 B j) (by omega) (by omega);have hst:=hC.step hlt hjt ⟨b0,b1⟩ ⟨b2,b3⟩;have HST:=ak hst;have HY2:=ak hY;have HT2:=ak hT;have HZ2:=ak hZ;clear hC hY hT hZ u1 hst;go_wp2;go_roundw
      case rel=> exact ⟨j+1,_,by omega,by go_num,HST.out,HY2.out.other (by first | omega | (simp<;> omega)) _,HT2.out.set (k+j) _,HZ2.out.other (by first | omega | (simp<;> omega)) _,hbel.setCell (by first | omega | (simp<;> omega)) _⟩
      case measure=> simp [intOf] <;> omega
     ·obtain rfl:j=17:=by omega
      go_wp2_with fail;go_roundw
      case rel=> exact ⟨k+1,u,by omega,by go_num,hC.row,hY,hT,hZ,hbel⟩
      case measure=> simp [intOf] <;> omega
   ·obtain rfl:k=17:=by omega
    have hsum:sm 65536 t 34=A * B:=by
     rw [hC.1,show sm 65536 (dg 65536 B) 0=0 from rfl,jF (by decide),jF (by decide),sS HA.out.1 (Int.lt_trans HA.out.2 (by decide)),sS HB.out.1 (Int.lt_trans HB.out.2 (by decide)),Int.mul_zero,Int.add_zero]
    have agj:∀k,0<=t k/\t k<=77307052050:=fun k=> by
     have h:=hC.2 k;rcases Nat.lt_or_ge k (17+0) with h' | h'
     ·have:=h.2.1 h';have:=h.1;omega
     ·have:=h.2.2 h';have:=h.1;omega
    have HS:=ak hsum;have ahG:=ak agj;clear hsum agj hC hY;have hT1:=aH.alloc hT (.cells (arr .u8 68 (fun _=> 0)) 297);have hZ1:=aH.alloc hZ (.cells (arr .u8 68 (fun _=> 0)) 297);go_wp2_with (refine aM rfl 296 _ rfl .u64 w2.heap.size 34 _ 132 Tryz.underlying296 Tryz.size296 rfl hT1 ?_);have hb3:=hbel.alloc hbel.size (.cells (arr .u8 68 (fun _=> 0)) 297);have aps:=hT.lt;have alX:=hZ.lt;have hs3:=hbel.size;clear hT hT1 hZ hbel
    go_loopw [13,45] (fun c i wq=> ∃(k:Nat) (z:Int) (o:Nat->Int),k<=34/\BL t o k z/\c=.int .u64 z/\i=.int .i64 k/\aH .u8 wq wr.heap.size 68 o/\aH .u8 wq (w.heap.size+2) 32 (fun _=> 0)/\Below w.heap.size w wq) (fun _ i _=> 34 - (intOf i).toNat)
    case atStart=> exact ⟨0,0,fun _=> 0,je _,BL.zero _ _,rfl,rfl,bG (n:=68) (f:=fun _=> 0) rfl (by rfl),hZ1,hb3⟩
    case round=>
     obtain ⟨k,z,o,hk,hO,rfl,rfl,hR,hZ,hbel⟩:=hrel;by_cases hlt:k<34
     ·have hix:=dY (f:=t) Tryz.underlying296 za Tryz.size132 k hlt;have e2:=hR.cell (2 * k) (by omega);have e3:=hR.cell (2 * k+1) (by omega);have f2:=hR.free (2 * k);have f3:=hR.free (2 * k+1);obtain ⟨t0,t1⟩:=ahG.out k;obtain ⟨z0,z1⟩:=hO.2.2;have hst:=BL.step hO (ahG.out k);have HST:=ak hst;have HR:=ak hR;have HZ2:=ak hZ;have hwn:=jf (x:=t k+z) (by omega) (by omega);clear hst hR hZ hO;go_wp2;go_roundw
      case rel=> exact ⟨k+1,_,_,by omega,HST.out,rfl,by go_num,(HR.out.set (2 * k) _).set (2 * k+1) _,(HZ2.out.other (by first | omega | (simp<;> omega)) _).other (by first | omega | (simp<;> omega)) _,(hbel.setCell (by first | omega | (simp<;> omega)) _).setCell (by first | omega | (simp<;> omega)) _⟩
      case measure=> simp [intOf] <;> omega
     ·obtain rfl:k=34:=by omega
      have hob:=hO.2.1;have hX:=BL.done hO HS.out ⟨Int.mul_nonneg HA.out.1 HB.out.1,by
       have h1:=HA.out;have h2:=HB.out
       calc A * B<=256 ^ 32 * 256 ^ 32:=Int.mul_le_mul (Int.le_of_lt h1.2) (Int.le_of_lt h2.2) h2.1 (by decide)
        _<65536 ^ 34:=by decide⟩
      have ZW:=ak hob;have HX:=ak hX;have HR:=ak hR;have apu:=hR.lt;clear hO hob hX;go_wp2_with fail;refine (wP _ 68 o _ (HR.out.rd (by decide)) ZW.out (by decide)).mono ?_;rintro e w4 ⟨rfl,hb4⟩;rw [HX.out];go_wp2_with fail;refine (xI _ _).mono ?_;rintro e w5 ⟨rfl,hb5⟩;have nG:=(hZ.kept hb4).kept hb5;have hb6:=hbel.trans ((hb4.mono hbel.size).trans (hb5.mono (jG hbel.size hb4.size)));clear hb4 hb5 hZ hbel;go_wp2_with (refine aF rfl 22 _ _ rfl .u8 (w.heap.size+2) 32 (fun _=> 0) _ dz rfl rfl nG ?_);refine bodyPost_ret (aZ rfl _ _ .u8 (w.heap.size+2) 32 _ 5 rfl (nG.setRow _ _) dU dz) rfl ⟨rfl,aA hb6 (by omega) _⟩
theorem NP (A B C:Int) (w:World) (hA:0<=A/\A<256 ^ 32) (hB:0<=B/\B<256 ^ 32) (hC:0<=C/\C<256 ^ 32):
  Calls Tryz.prog 207 #[.agg (arr .u8 32 (dg 256 A)),.agg (arr .u8 32 (dg 256 B)),.agg (arr .u8 32 (dg 256 C))] w fun e w'=>
   e=.returned (.agg (arr .u8 32 (dg 256 ((A * B % Q+C) % Q))))/\Below w.heap.size w w':=by
 have HA:=ak hA;have HB:=ak hB;have HC:=ak hC;clear hA hB hC
 go_enter Tryz.func207,Tryz.ntmps207
 go_wp2
 refine aG (fun w1=> aH .u8 w1 w.heap.size 32 (dg 256 A)/\aH .u8 w1 (w.heap.size+1) 32 (dg 256 B)/\aH .u8 w1 (w.heap.size+2) 32 (dg 256 C)/\aH .u8 w1 (w.heap.size+3) 32 (fun _=> 0)/\Below w.heap.size w w1)
  ⟨aH.alloc (aH.alloc (aH.alloc (bG (by first | omega | (simp<;> omega)) (by rfl)) _) _) _,aH.alloc (aH.alloc (bG (by first | omega | (simp<;> omega)) (by rfl)) _) _,aH.alloc (bG (by first | omega | (simp<;> omega)) (by rfl)) _,bG (by first | omega | (simp<;> omega)) (by rfl),((((bM _ _).alloc (bB _) _).alloc (by simp) _).alloc (by simp;omega) _).alloc (by simp;omega) _⟩ ?_
 rintro w1 ⟨hA,hB',hC,hZ,hbel⟩
 refine fJ (n:=12) 5 rfl (by decide) (by kernel_rfl) (by kernel_rfl) (by kernel_rfl) (by kernel_rfl) rfl
  (fun ii vv _=> (match ii with | 0=> vv=.agg (arr .u8 32 (dg 256 A)) | 1=> vv=.agg (arr .u8 32 (dg 256 B)) | 2=> vv=.agg (arr .u8 32 (dg 256 (A * B % Q))) | 3=> vv=.agg (arr .u8 32 (dg 256 C)) | 4=> vv=.agg (arr .u8 32 (dg 256 ((A * B % Q+C) % Q))) | _=> True))
  (fun w w'=> Below w.heap.size w w') (fun _ _ h=> h) (fun _ _ _ _ h _=> h) rfl ?_ ?_
 ·refine bQ ?_;refine ⟨?_,?_,?_,?_,?_,(fun h=> absurd rfl h),trivial⟩
  ·intro _ a w2 hB hF hd;exact aJ <| aO (aB rfl dU rfl dz (hF.same 3 rfl) (hA.below hB hA.lt)) rfl
  ·intro _ a w2 hB hF hd;exact aJ <| aO (aB rfl dU rfl dz (hF.same 4 rfl) (hB'.below hB hB'.lt)) rfl
  ·intro _ a w2 hB hF hd;refine aJ <| aD _ _ _ rfl Tryz.call251 _ (args2 (hd 0 _ rfl (aj rfl)) (hd 1 _ rfl (aj rfl))) (by simp) ((ZN A B w2 HA.out HB.out).mono ?_);rintro e w3 ⟨rfl,hb⟩;exact ⟨_,rfl,rfl,hb⟩
  ·intro _ a w2 hB hF hd;exact aJ <| aO (aB rfl dU rfl dz (hF.same 5 rfl) (hC.below hB hC.lt)) rfl
  ·intro _ a w2 hB hF hd;refine aJ <| aD _ _ _ rfl Tryz.call250 _ (args2 (hd 2 _ rfl (aj rfl)) (hd 3 _ rfl (aj rfl))) (by simp) ((aaf (A * B % Q) C w2 (Qv _) HC.out).mono ?_);rintro e w3 ⟨rfl,hb⟩;exact ⟨_,rfl,rfl,hb⟩
 ·intro a w2 hB hF hS;have ha:=aI rfl rfl hF [_,_,_,_,_,undef] rfl ⟨hS 0 _ rfl (by decide),hS 1 _ rfl (by decide),hS 2 _ rfl (by decide),hS 3 _ rfl (by decide),hS 4 _ rfl (by decide),trivial,trivial⟩;simp only [puts,Act.put,dH,dI,dJ] at ha;subst ha;clear hS hF;have hZ2:=hZ.below hB hZ.lt;have hb2:=hbel.trans (hB.mono hbel.size);refine aW 22 _ _ rfl .u8 (w.heap.size+3) 32 (fun _=> 0) _ dz rfl rfl hZ2 ?_;clear hA hB' hC hZ hbel hB;go_wp2;refine bodyPost_ret (aZ rfl _ _ .u8 (w.heap.size+3) 32 _ 5 rfl (hZ2.setRow _ _) dU dz) rfl ⟨rfl,aA hb2 (by omega) _⟩
end Go.Proofs.YtpcjekgfnfjbpaaGreat
