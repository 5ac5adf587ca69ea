/- Part 40 of SuiteBytes; conditions: in each theorem. -/
import Derived.Test.YtpcjekgfnfjbpaaGreatPkSuiteBytes39
import Derived.Test.YtpcjekgfnfjbpaaGreatPkSuiteBytes22
set_option linter.unusedVariables false
set_option linter.unusedSimpArgs false
set_option maxRecDepth 100000
set_option maxHeartbeats 25600000
namespace Go.Proofs.YtpcjekgfnfjbpaaGreat
open Go.RowKit Go.bC
attribute [local go_sem ↓] Go.wp_at_zero Go.wp_at_succ
theorem EH (X:Int) (m:Nat):once (2 * (X / 2 ^ (m+1) % Q)+X / 2 ^ m % 2)=X / 2 ^ m % Q:=by
 have h:=half X m
 generalize X / 2 ^ (m+1)=Y at h
 generalize X / 2 ^ m=Z at h
 unfold once Q
 split<;> omega
theorem Bh (Y b:Int) (hb:0<=b/\b<=1):0<=2 * (Y % Q)+b/\2 * (Y % Q)+b<65536 ^ 17:=by
 have h1:=zN Y (by decide:Q≠0);have h2:=FC Y (by decide:0<Q);have h3:(2:Int) * Q<65536 ^ 17:=by decide
 omega
theorem xX (v:Value) (n:Nat) (f:Nat->Int) (w:World) (hv:Rd .u8 w v n f) (hf:∀i,i<n->0<=f i/\f i<256) (hn:n<=1000):
  Calls Tryz.prog 253 #[v] w fun e w'=>
   e=.returned (.agg (arr .u32 17 (dg 65536 (sm 256 f n % Q))))/\Below w.heap.size w w':=by
 obtain⟨a1,c1,rfl,l1,m1,z1,h1⟩:=hv;have HF:=ak hf;have H1:=ak h1;have hw8:IntKind.i64.wrap (8 * (n:Int))=8 * n:=bI aH aH;have hw9:IntKind.i64.wrap (8 * (n:Int) - 1)=8 * n - 1:=bI aH aH;have hs:=lW (B:=256) aN HF.out;obtain⟨X,hX⟩:∃X,X=sm 256 f n:=⟨_,rfl⟩
 have hX0:Hid (∀i,i<n->dg 256 X i=f i):=by unfold Hid;rw[hX];exact tJ aN HF.out
 have hXb:Hid (X / 2 ^ (8 * n)=0):=by
  unfold Hid;rw[hX,Int.pow_mul];exact CP hs.1 hs.2
 have hX1:Hid (X=X / 2 ^ 0):=by unfold Hid;simp
 rw[<-hX];have HX:=ak hX;clear h1 z1 hf hs hX
 go_enter Tryz.func253,Tryz.ntmps253
 go_wp2
 go_loopw [4] (fun i wr=> ∃k:Nat,k<=8 * n/\i=.int .i64 ((k:Int) - 1)/\aQ .u32 wr w.heap.size 17 (fun _=>0)/\aQ .u32 wr (w.heap.size+1) 17 (dg 65536 (X / 2 ^ k % Q))/\Below w.heap.size w wr) (fun i _=>(intOf i+1).toNat)
 case atStart=>exact⟨8 * n,bB _,by go_num,aQ.alloc (bU (by first | omega | (simp<;> omega)) (by rfl)) _,by rw[hXb.out];exact bU (by first | omega | (simp<;> omega)) (by rfl),((bT _ _).alloc (bB _) _).alloc aR _⟩
 case round=>
  obtain⟨k,hk,rfl,hZ,hA,aA⟩:=hrel;obtain _ | m:=k
  ·go_wp2_with (first
    | (refine bq rfl 251 _ rfl .u32 (w.heap.size+1) 17 _ 117 DX vI rfl hA ?_)
    | (refine aM rfl 251 _ _ rfl .u32 w.heap.size 17 (fun _=>0) _ vI rfl rfl hZ ?_))
   refine bodyPost_ret (bg rfl _ _ .u32 w.heap.size 17 _ 117 rfl (hZ.setRow _ _) DX vI) rfl ⟨?_,aC aA (bB _) _⟩;rw[<-hX1.out]
  ·have MP:m / 8<n:=by omega
   obtain⟨b,off,rfl,s1,hcell⟩:=H1.out aH;have Xw:m % 8<8:=Nat.mod_lt _ aN;have hfm:=HF.out (m / 8) MP;have hkm:((m+1:Nat):Int) - 1=(m:Int):=by omega
   rw[hkm];have hq:IntKind.i64.wrap (Int.tdiv (m:Int) 8)=((m / 8:Nat):Int):=by rw[Pg aH,bI] <;> omega
   have hr:Int.tmod (m:Int) 8=((m % 8:Nat):Int):=by rw[Int.tmod_eq_emod_of_nonneg aH];omega
   have hc:IntKind.u64.wrap ((m % 8:Nat):Int)=((m % 8:Nat):Int):=iY aH aH;have hsh:=xD (x:=f (m / 8)) (m % 8) Xw;have hand:bits .and .u8 (f (m / 8) / 2 ^ (m % 8)) 1=X / 2 ^ m % 2:=by
    rw[tN (Int.ediv_nonneg hfm.1 (vF (eG aN _))) (Int.lt_of_le_of_lt (Int.ediv_le_self _ hfm.1) hfm.2),vC X m,hX0.out _ MP]
   have hbit:0<=X / 2 ^ m % 2/\X / 2 ^ m % 2<=1:=by omega
   have hcv:IntKind.u32.wrap (X / 2 ^ m % 2)=X / 2 ^ m % 2:=rX aH aH;have hpl:off+((m / 8:Nat):Int).toNat=off+m / 8:=by rw[Ct]
   have hce:=hcell (m / 8) MP;have ajY:=(aA.cell (p:=⟨b,off+m / 8,none⟩) s1).trans hce;have hbw:=zO s1 aA.size;have hcond:(0:Int)<=(m:Int):=by omega
   have HX0:=ak hq;go_wp2_with fail
   refine fT (n:=28) 14 rfl aN aS aS aS aS rfl
    (fun ii vv _=>(match ii with | 0=>vv=.agg (arr .u32 17 (dg 65536 (X / 2 ^ (m+1) % Q))) | 1=>vv=.slice (some ⟨b,off,none⟩) n c1 | 2 | 6=>vv=.int .i64 ((m:Int)) | 3=>vv=.int .i64 ((m / 8:Nat)) | 4=>vv=.pointer (some ⟨b,off+m / 8,none⟩) | 5=>vv=.int .u8 (f (m / 8)) | 7=>vv=.int .i64 ((m % 8:Nat)) | 8=>vv=.int .u64 ((m % 8:Nat)) | 9=>vv=.int .u8 (f (m / 8) / 2 ^ (m % 8)) | 10=>vv=.int .u8 (X / 2 ^ m % 2) | 11=>vv=.int .u32 (X / 2 ^ m % 2) | 12=>vv=.agg (arr .u32 17 (dg 65536 (2 * (X / 2 ^ (m+1) % Q)+X / 2 ^ m % 2))) | 13=>vv=.agg (arr .u32 17 (dg 65536 (once (2 * (X / 2 ^ (m+1) % Q)+X / 2 ^ m % 2)))) | _=>True))
    (fun w w'=>Below w.heap.size w w') (fun _ _ h=>h) (fun _ _ _ _ h _=>h) rfl ?_ ?_
   ·refine cB ?_;refine⟨?_,?_,?_,?_,?_,?_,?_,?_,?_,?_,?_,?_,?_,?_,(fun h=>absurd rfl h),trivial⟩
    ·intro _ a w2 hB hF hd;exact aO <| aT (aF rfl DX rfl vI (hF.same 3 rfl) (hA.below hB hA.lt)) rfl
    ·intro _ a w2 hB hF hd;exact aO <| aB _ (.inl rfl) aR (hF.same 0 rfl)
    ·intro _ a w2 hB hF hd;exact aO <| aB _ (.inl rfl) aR (hF.same 4 rfl)
    ·intro _ a w2 hB hF hd;exact aO <| aT (Go.bC.qJ rfl (hd 2 _ rfl (aj rfl)) rfl aN) (congrArg (Value.int .i64) (hq))
    ·intro _ a w2 hB hF hd;exact aO <| aT (dA rfl (hd 1 _ rfl (aj rfl)) (hd 3 _ rfl (aj rfl)) lK aS aH aH) (congrArg (fun z=>Value.pointer (some ⟨b,z,none⟩)) hpl)
    ·intro _ a w2 hB hF hd;exact aO <| aT (aY rfl (hd 4 _ rfl (aj rfl)) Tryz.underlying5 ((hB.cell (p:=⟨b,off+m / 8,none⟩) hbw).trans ajY)) rfl
    ·intro _ a w2 hB hF hd;exact aO <| aB _ (.inl rfl) aR (hF.same 4 rfl)
    ·intro _ a w2 hB hF hd;exact aO <| aT (Go.bC.vZ rfl (hd 6 _ rfl (aj rfl)) rfl aN) (congrArg (Value.int .i64) (hr))
    ·intro _ a w2 hB hF hd;exact aO <| aT (kU rfl (hd 7 _ rfl (aj rfl)) Tryz.underlying3 Tryz.underlying212) (congrArg (Value.int .u64) (hc))
    ·intro _ a w2 hB hF hd;exact aO <| aT (Go.bC.qI rfl (hd 5 _ rfl (aj rfl)) (hd 8 _ rfl (aj rfl)) aH) (congrArg (Value.int .u8) (hsh))
    ·intro _ a w2 hB hF hd;exact aO <| aT (Go.bC.iQ rfl (hd 9 _ rfl (aj rfl)) rfl) (congrArg (Value.int .u8) (hand))
    ·intro _ a w2 hB hF hd;exact aO <| aT (kU rfl (hd 10 _ rfl (aj rfl)) Tryz.underlying5 Tryz.underlying117) (congrArg (Value.int .u32) (hcv))
    ·intro _ a w2 hB hF hd;refine aO <| aD _ _ _ rfl Tryz.call265 _ (args2 (hd 0 _ rfl (aj rfl)) (hd 11 _ rfl (aj rfl))) aR ((Pz _ _ w2 hbit).mono ?_);rintro e w3 ⟨rfl,hb⟩;exact⟨_,rfl,rfl,hb⟩
    ·intro _ a w2 hB hF hd;refine aO <| aD _ _ _ rfl Tryz.call264 _ (args1 (hd 12 _ rfl (aj rfl))) aR ((JW _ w2 (Bh _ _ hbit)).mono ?_);rintro e w3 ⟨rfl,hb⟩;exact⟨_,rfl,rfl,hb⟩
   ·intro a w2 hB hF hS;have ha:=aP rfl rfl hF [_,_,_,_,_,_,_,_,_,_,_,_,_,_,undef] rfl ⟨hS 0 _ rfl aN,hS 1 _ rfl aN,hS 2 _ rfl aN,hS 3 _ rfl aN,hS 4 _ rfl aN,hS 5 _ rfl aN,hS 6 _ rfl aN,hS 7 _ rfl aN,hS 8 _ rfl aN,hS 9 _ rfl aN,hS 10 _ rfl aN,hS 11 _ rfl aN,hS 12 _ rfl aN,hS 13 _ rfl aN,trivial,trivial⟩;simp only[puts,Act.put,dK,dL,dM] at ha;subst ha;clear hS hF;have iK:=hA.below hB hA.lt;have gy:=hZ.below hB hZ.lt;have dP:=aA.trans (hB.mono aA.size);refine bE 251 _ _ rfl .u32 (w.heap.size+1) 17 _ _ vI rfl rfl iK ?_;have hon:=EH X m;have HON:=ak hon;clear hon;go_wp2;go_roundw
    case rel=>exact⟨m,by omega,by go_num,(gy.aG _ aH _),by rw[<-HON.out];exact iK.setRow _ _,aC dP aH _⟩
    case measure=>simp[intOf] <;> omega
theorem Ef (v:Value) (A:Int) (n:Nat) (w:World) (hv:Rd .u8 w v n (dg 256 A)) (hn:n<=1000) (hA:0<=A/\A<256 ^ n):
  Calls Tryz.prog 253 #[v] w fun e w'=>
   e=.returned (.agg (arr .u32 17 (dg 65536 (A % Q))))/\Below w.heap.size w w':=by
 have h:=xX v n (dg 256 A) w hv (fun i _=>aV aN A i) hn;rw[rF aN,uO hA.1 hA.2] at h;exact h
theorem agR (v:Value) (n:Nat) (f:Nat->Int) (w:World) (hv:Rd .u8 w v n f) (hf:∀i,i<n->0<=f i/\f i<256) (hn:n<=128):
  Calls Tryz.prog 216 #[v] w fun e w'=>
   e=.returned (.tuple #[.agg (arr .u8 32 (dg 256 (sm 256 f n % Q))),.int .i64 0])/\Below w.heap.size w w':=by
 have hv2:=hv;have HV:=ak hv;obtain⟨a1,c1,rfl,l1,m1,z1,h1⟩:=hv;have HF:=ak hf;clear h1 z1 hf hv2
 go_enter Tryz.func216,Tryz.ntmps216
 go_wp2_with fail;have eP:Below w.heap.size w (w.alloc (.cells (arr .u8 32 (fun _=>0)) 22)):=(bT _ _).alloc (bB _) _;have hZ1:aQ .u8 (w.alloc (.cells (arr .u8 32 (fun _=>0)) 22)) w.heap.size 32 (fun _=>0):=bU rfl rfl;refine(xX _ n f _ (HV.out.below eP) HF.out aH).mono ?_;rintro e w2 ⟨rfl,dP⟩;go_wp2_with fail;refine(yN _ w2).mono ?_;rintro e w3 ⟨rfl,fP⟩;have jy:=(hZ1.kept dP).kept fP;have gU:=eP.trans ((dP.mono eP.size).trans (fP.mono (jS eP.size dP.size)));clear eP hZ1 dP fP;go_wp2_with (refine aM rfl 22 _ _ rfl .u8 w.heap.size 32 (fun _=>0) _ dh rfl rfl jy ?_);refine bodyPost_ret (gK rfl _ _ .u8 w.heap.size 32 _ 5 rfl (jy.setRow _ _) dY dh) rfl ⟨rfl,aC gU (bB _) _⟩
theorem RD (C:Int) (w:World) (hC:0<=C/\C<256 ^ 32):
  Calls Tryz.prog 155 #[.agg (arr .u8 32 (dg 256 C))] w fun e w'=>
   e=.returned (.bool (decide (C<Q)))/\Below w.heap.size w w':=by
 have HC:=ak hC;clear hC
 go_enter Tryz.func155,Tryz.ntmps155
 have mU:aQ .u8 (w.alloc (.cells (arr .u8 32 (dg 256 C)) 22)) w.heap.size 32 (dg 256 C):=bU rfl rfl;have eP:Below w.heap.size w (w.alloc (.cells (arr .u8 32 (dg 256 C)) 22)):=(bT _ _).alloc (bB _) _;go_wp2_with (refine bq rfl 22 _ rfl .u8 w.heap.size 32 _ 5 dY dh rfl mU ?_);refine(Bo C _ HC.out).mono ?_;rintro e w2 ⟨rfl,dP⟩;go_wp2_with fail;refine(ED w2).mono ?_;rintro e w3 ⟨rfl,fP⟩;go_wp2_with fail;refine(Bo Q w3 aN).mono ?_;rintro e w4 ⟨rfl,jd⟩;go_wp2_with fail;refine(Kg C Q w4 ⟨HC.out.1,Int.lt_of_lt_of_le HC.out.2 aN⟩ aN).mono ?_;rintro e w5 ⟨rfl,iX⟩;have aA:=eP.trans ((dP.mono eP.size).trans ((fP.mono (jS eP.size dP.size)).trans ((jd.mono (jS (jS eP.size dP.size) fP.size)).trans (iX.mono (jS (jS (jS eP.size dP.size) fP.size) jd.size)))));clear eP dP fP jd iX mU;have hs:=aA.size;go_wp2_with (refine aM rfl 251 _ _ rfl .u32 w5.heap.size 17 (fun _=>0) _ vI rfl rfl (bU rfl rfl) ?_);go_ret;refine⟨?_,aC (aA.alloc hs _) hs _⟩;by_cases h:C<Q
 ·rw[decide_eq_false (by omega:¬ Q<=C),decide_eq_true h];rfl
 ·rw[decide_eq_true (by omega:Q<=C),decide_eq_false h];rfl
theorem Ua (A B:Int):once (A % Q+B % Q)=(A+B) % Q:=by
 unfold once Q
 split<;> omega
theorem YB (A:Int):0<=A % Q/\A % Q<Q:=⟨zN _ aN,FC _ aN⟩
theorem QA (A:Int):0<=A % Q/\A % Q<256 ^ 32:=⟨(YB A).1,Int.lt_trans (YB A).2 aN⟩
theorem PO (A B:Int):0<=A % Q+B % Q/\A % Q+B % Q<65536 ^ 17:=by
 have h1:=YB A;have h2:=YB B;have h3:Q+Q<65536 ^ 17:=by decide
 omega
theorem ZR (A B:Int) (w:World) (hA:0<=A/\A<256 ^ 32) (hB:0<=B/\B<256 ^ 32):
  Calls Tryz.prog 250 #[.agg (arr .u8 32 (dg 256 A)),.agg (arr .u8 32 (dg 256 B))] w fun e w'=>
   e=.returned (.agg (arr .u8 32 (dg 256 ((A+B) % Q))))/\Below w.heap.size w w':=by
 have HA:=ak hA;have HB:=ak hB;clear hA hB
 go_enter Tryz.func250,Tryz.ntmps250
 go_wp2
 refine aJ (fun w1=>aQ .u8 w1 w.heap.size 32 (dg 256 A)/\aQ .u8 w1 (w.heap.size+1) 32 (dg 256 B)/\aQ .u8 w1 (w.heap.size+2) 32 (fun _=>0)/\Below w.heap.size w w1)
  ⟨aQ.alloc (aQ.alloc (bU (by first | omega | (simp<;> omega)) (by rfl)) _) _,aQ.alloc (bU (by first | omega | (simp<;> omega)) (by rfl)) _,bU (by first | omega | (simp<;> omega)) (by rfl),(((bT _ _).alloc (bB _) _).alloc aR _).alloc (by simp;omega) _⟩ ?_
 rintro w1 ⟨hA,hB',hZ,aA⟩
 refine bG (n:=36) aS aS aS rfl
  (gZ [(6,4),(7,5)]) (eZ [(6,4),(7,5)]) (fun _=>arr .u32 17 (fun _=>0)) (fun i=>match i with | 4=>(arr .u32 17 (dg 65536 (A % Q))) | 5=>(arr .u32 17 (dg 65536 (B % Q))) | _=> #[]) (fun _=>251) (fun i=>match i with | 4=>5 | 5=>6 | _=>0)
  (fun ii vv _=>(match ii with | 0=>vv=.slice (some ⟨w.heap.size,0,none⟩) 32 32 | 1=>vv=.agg (arr .u32 17 (dg 65536 (A % Q))) | 2=>vv=.slice (some ⟨(w.heap.size+1),0,none⟩) 32 32 | 3=>vv=.agg (arr .u32 17 (dg 65536 (B % Q))) | _=>True)) (fun _ _=>True) (fun _ _ _=>trivial) (fun _ _ _ _ _ _ _=>trivial) (fun _ _ _ _ h _=>h)
  (fJ rfl) (dU rfl) ?_ ?_ ?_ ?_
 ·refine cB ?_;refine⟨?_,?_,?_,?_,(fun h=>by cases h),(fun h=>by cases h),(fun _ h=>by cases h),(fun _ h=>by cases h),trivial⟩
  ·intro _ _ a w2 hB hF hd;exact aO <| aT (fC rfl (hF.same 2 rfl) dY aS) rfl
  ·intro _ _ a w2 hB hF hd;refine aO <| aD _ _ _ rfl Tryz.call253 _ (args1 (hd 0 _ rfl rfl rfl (aj rfl))) aR ((Ef _ A 32 w2 ((hA.below hB hA.lt).rd aN) aN HA.out).mono ?_);rintro e w3 ⟨rfl,hb⟩;exact⟨_,rfl,rfl,hb⟩
  ·intro _ _ a w2 hB hF hd;exact aO <| aT (fC rfl (hF.same 3 rfl) dY aS) rfl
  ·intro _ _ a w2 hB hF hd;refine aO <| aD _ _ _ rfl Tryz.call253 _ (args1 (hd 2 _ rfl rfl rfl (aj rfl))) aR ((Ef _ B 32 w2 ((hB'.below hB hB'.lt).rd aN) aN HB.out).mono ?_);rintro e w3 ⟨rfl,hb⟩;exact⟨_,rfl,rfl,hb⟩
 ·refine cB ?_;refine⟨(fun h=>by cases h),(fun h=>by cases h),(fun h=>by cases h),(fun h=>by cases h),?_,?_,(fun h=>by cases h),(fun h=>by cases h),trivial⟩
  ·exact fun _=>⟨rfl,rfl,fun a w2 K h=>aZ rfl rfl Tryz.zeroValue251 aR h⟩
  ·exact fun _=>⟨rfl,rfl,fun a w2 K h=>aZ rfl rfl Tryz.zeroValue251 aR h⟩
 ·refine cB ?_;refine⟨(fun _ h=>by cases h),(fun _ h=>by cases h),(fun _ h=>by cases h),(fun _ h=>by cases h),(fun _ h=>by cases h),(fun _ h=>by cases h),?_,?_,trivial⟩
  ·intro p hp;obtain rfl:4=p:=iy hp;exact⟨rfl,rfl,⟨_,rfl⟩,aj rfl,fun a w2 b K hB hF hd hx hb h=>bJ rfl rfl vI hx (hd 1 _ rfl rfl rfl (aj rfl)) hb h⟩
  ·intro p hp;obtain rfl:5=p:=iy hp;exact⟨rfl,rfl,⟨_,rfl⟩,aj rfl,fun a w2 b K hB hF hd hx hb h=>bJ rfl rfl vI hx (hd 3 _ rfl rfl rfl (aj rfl)) hb h⟩
 ·intro a w2 blk hB hF hS hv hfin dw;obtain⟨v4,IE,Lv⟩:=hv 4 _ rfl rfl;obtain⟨v5,xQ,FR⟩:=hv 5 _ rfl rfl;have ha:=aP rfl rfl hF [_,_,_,_,_,_,undef,undef] rfl ⟨hS 0 _ rfl rfl rfl,hS 1 _ rfl rfl rfl,hS 2 _ rfl rfl rfl,hS 3 _ rfl rfl rfl,v4,v5,trivial,trivial,trivial⟩;have f4:=hfin 6 _ 4 rfl rfl;have f5:=hfin 7 _ 5 rfl rfl;have Cb:=dw 4 5 _ _ rfl rfl rfl rfl aN;simp only[puts,Act.put,dK,dL,dM] at ha;subst ha;have V4:aQ .u32 w2 (blk 4) 17 (dg 65536 (A % Q)):=⟨_,f4⟩
  have V5:aQ .u32 w2 (blk 5) 17 (dg 65536 (B % Q)):=⟨_,f5⟩
  clear hS hv hfin dw hF v4 v5 f4 f5;have iK:=hA.below hB hA.lt;have gy:=hZ.below hB hZ.lt;have akg:=hZ.lt;have dP:=aA.trans (hB.mono aA.size);have hs1:=aA.size;obtain⟨x,hx⟩:∃x,x=blk 4:=⟨_,rfl⟩
  obtain⟨y,hy⟩:∃y,y=blk 5:=⟨_,rfl⟩
  rw[<-hx] at V4 Cb IE Lv ⊢;rw[<-hy] at V5 Cb xQ FR ⊢;clear hx hy hA hB' hZ hB aA iK;have hxy:x≠y:=Cb;go_wp2
  go_loopw [7,14] (fun c i wr=> ∃(k:Nat) (z:Int),k<=17/\z=yM (A % Q) (B % Q) k/\0<=z/\z<=1/\c=.int .u32 z/\i=.int .i64 k/\aQ .u32 wr x 17 (upto k (dg 65536 (A % Q+B % Q)) (dg 65536 (A % Q)))/\aQ .u32 wr y 17 (dg 65536 (B % Q))/\aQ .u8 wr (w.heap.size+2) 32 (fun _=>0)/\Below w.heap.size w wr) (fun _ i _=>17 - (intOf i).toNat)
  case atStart=>exact⟨0,0,gX _,(yK _ _).symm,by decide,by decide,rfl,rfl,by rw[dH];exact V4,V5,gy,dP⟩
  case round=>
   obtain⟨k,z,hk,hc,hc0,hc1,rfl,rfl,hX,hY,hZ,aA⟩:=hrel;have HC:=ak hc;clear hc;by_cases hlt:k<17
   ·have e1:=hX.cell k hlt;rw[upto_at] at e1;have e2:=hY.cell k hlt;have f1:=hX.free k;have HX:=ak hX;have HY:=ak hY;have HZ:=ak hZ;obtain⟨b0,b1⟩:=aV (by decide:(0:Int)<65536) (A % Q) k;obtain⟨b2,b3⟩:=aV (by decide:(0:Int)<65536) (B % Q) k;have hand:=yP (x:=dg 65536 (A % Q) k+dg 65536 (B % Q) k+z) aH aH;have gF:=yL (A % Q) (B % Q) k;rw[<-HC.out] at gF;obtain⟨s1,s2⟩:=gF;have S1:=ak s1;have S2:=ak s2;have hw1:=rX (x:=dg 65536 (A % Q) k+dg 65536 (B % Q) k) aH aH;have hw2:=rX (x:=dg 65536 (A % Q) k+dg 65536 (B % Q) k+z) aH aH;clear hX hY hZ s1 s2;go_wp2
    go_quiet (fail)
    go_wp2;go_roundw
    case rel=>exact⟨k+1,_,by omega,S2.out,by omega,by omega,rfl,by go_num,by rw[<-bW S1.out];exact(HX.out.drewN _).set k _,(HY.out.drewN _).other (by first | omega | (simp<;> omega)) _,(HZ.out.drewN _).other (by first | omega | (simp<;> omega)) _,(below_drewN aA _).setCell (by first | omega | (simp<;> omega)) _⟩
    case measure=>simp[intOf] <;> omega
   ·obtain rfl:k=17:=by omega
    go_wp2_with (refine bq rfl 251 _ rfl .u32 x 17 _ 117 DX vI rfl hX ?_);rw[gP (dQ _ _ (bB _))];refine(JW _ _ (PO A B)).mono ?_;rintro e w3 ⟨rfl,fP⟩;go_wp2_with fail;refine(yN _ _).mono ?_;rintro e w4 ⟨rfl,jd⟩;have xq:=(hZ.kept fP).kept jd;have iX:=aA.trans ((fP.mono aA.size).trans (jd.mono (jS aA.size fP.size)));clear fP jd hX hY hZ;go_wp2_with (refine aM rfl 22 _ _ rfl .u8 (w.heap.size+2) 32 (fun _=>0) _ dh rfl rfl xq ?_);refine bodyPost_ret (bg rfl _ _ .u8 (w.heap.size+2) 32 _ 5 rfl (xq.setRow _ _) dY dh) rfl ⟨by rw[Ua],aC iX aH _⟩
theorem Ga (B:Int) (f:Nat->Int) (p:Nat) (v:Int):∀n,sm B (upd f p v) n=sm B f n+(if p<n then (v - f p) * B ^ p else 0)
 | 0=>by simp[sm]
 | n+1=>by
  rw[sm,sm,Ga B f p v n];by_cases e:n=p
  ·subst e;rw[if_neg aH,if_pos aH,show upd f n v n=v from if_pos rfl,Int.sub_mul];omega
  ·rw[show upd f p v n=f n from if_neg aH];by_cases h:p<n
   ·rw[if_pos h,if_pos aH];omega
   ·rw[if_neg h,if_neg aH];omega
def CF (t x y:Nat->Int) (i j:Nat):Prop:=
 sm 65536 t 34=sm 65536 x i * sm 65536 y 17+x i * 65536 ^ i * sm 65536 y j/\
 ∀k,0<=t k/\(k<i+j->t k<=(i+1) * 4294836225)/\(i+j<=k->t k<=i * 4294836225)
theorem Tc (B:Int):∀n,sm B (fun _=>0) n=0
 | 0=>rfl
 | n+1=>by rw[sm,Tc B n];simp
theorem CF.zero (x y:Nat->Int):CF (fun _=>0) x y 0 0:=by
 refine⟨?_,fun k=>⟨by simp,fun h=>by simp,fun h=>by simp⟩⟩;rw[Tc,show sm 65536 x 0=0 from rfl,show sm 65536 y 0=0 from rfl];simp
theorem CF.row {t x y:Nat->Int} {i:Nat} (h:CF t x y i 17):CF t x y (i+1) 0:=by
 refine⟨?_,fun k=>⟨(h.2 k).1,fun hk=>?_,fun hk=>?_⟩⟩
 ·rw[h.1,show sm 65536 x (i+1)=sm 65536 x i+x i * 65536 ^ i from rfl,show sm 65536 y 0=0 from rfl,Int.add_mul,Int.mul_zero,Int.add_zero]
 ·have h1:=(h.2 k).2.1;have:=h1 aH;push_cast;omega
 ·have h1:=(h.2 k).2.1;have h2:=(h.2 k).2.2;rcases Nat.lt_or_ge k (i+17) with h' | h'
  ·have:=h1 h';push_cast;omega
  ·have:=h2 h';push_cast;omega
theorem Ug {a b:Int} (h0:0<=a) (h1:a<=65535) (h2:0<=b) (h3:b<=65535):0<=a * b/\a * b<=4294836225:=by
 refine⟨Int.mul_nonneg h0 h2,?_⟩;have:=Int.mul_le_mul h1 h3 h2 (by decide:(0:Int)<=65535);omega
theorem CF.step {t x y:Nat->Int} {i j:Nat} (h:CF t x y i j) (hi:i<17) (hj:j<17) (hx:0<=x i/\x i<65536) (hy:0<=y j/\y j<65536):CF (upd t (i+j) (t (i+j)+x i * y j)) x y i (j+1):=by
 have hm:=Ug hx.1 aH hy.1 aH;refine⟨?_,fun k=>?_⟩
 ·rw[Ga,if_pos aH,h.1,show sm 65536 y (j+1)=sm 65536 y j+y j * 65536 ^ j from rfl,show t (i+j)+x i * y j - t (i+j)=x i * y j by omega,Int.pow_add,Int.mul_add];have:x i * y j * (65536 ^ i * 65536 ^ j)=x i * 65536 ^ i * (y j * 65536 ^ j):=by
   rw[Int.mul_assoc,Int.mul_assoc,←Int.mul_assoc (y j),Int.mul_comm (y j),Int.mul_assoc]
  omega
 ·by_cases e:k=i+j
  ·subst e;have h1:=(h.2 (i+j)).1;have h2:=(h.2 (i+j)).2.2 (bB _);rw[show upd t (i+j) (t (i+j)+x i * y j) (i+j)=t (i+j)+x i * y j from if_pos rfl];exact⟨by omega,fun _=>by omega,fun hk=>by omega⟩
  ·rw[show upd t (i+j) (t (i+j)+x i * y j) k=t k from if_neg e];exact⟨(h.2 k).1,fun hk=>(h.2 k).2.1 aH,fun hk=>(h.2 k).2.2 aH⟩
def Cv (t o:Nat->Int) (k:Nat) (c:Int):Prop:=
 sm 256 o (2 * k)+c * 65536 ^ k=sm 65536 t k/\(∀i,i<2 * k->0<=o i/\o i<256)/\0<=c/\c<=2000000000000
theorem Cv.zero (t o:Nat->Int):Cv t o 0 0:=⟨by simp[sm],fun i hi=>by omega,by decide,by decide⟩
theorem Cv.step {t o:Nat->Int} {k:Nat} {c:Int} (h:Cv t o k c) (ht:0<=t k/\t k<=77307052050):
  Cv t (upd (upd o (2 * k) ((t k+c) % 256)) (2 * k+1) ((t k+c) / 256 % 256)) (k+1) ((t k+c) / 65536):=by
 obtain⟨h1,h2,h3,h4⟩:=h;refine⟨?_,fun i hi=>?_,by omega,by omega⟩
 ·rw[show 2 * (k+1)=2 * k+1+1 by omega];rw[sm,sm,Ga,Ga,if_neg aH,if_neg aH];rw[show upd (upd o (2 * k) ((t k+c) % 256)) (2 * k+1) ((t k+c) / 256 % 256) (2 * k)=(t k+c) % 256 by unfold upd;rw[if_neg aH,if_pos rfl]];rw[show upd (upd o (2 * k) ((t k+c) % 256)) (2 * k+1) ((t k+c) / 256 % 256) (2 * k+1)=(t k+c) / 256 % 256 by unfold upd;rw[if_pos rfl]];rw[sm,←h1,show (256:Int) ^ (2 * k)=65536 ^ k by rw[Int.pow_mul];rfl,Int.pow_succ,show (256:Int) ^ (2 * k)=65536 ^ k by rw[Int.pow_mul];rfl,Int.pow_succ]
  generalize (65536:Int) ^ k=p
  have e:t k+c=(t k+c) % 256+(t k+c) / 256 % 256 * 256+(t k+c) / 65536 * 65536:=by omega
  have e2:t k * p+c * p=((t k+c) % 256) * p+((t k+c) / 256 % 256 * 256) * p+((t k+c) / 65536 * 65536) * p:=by rw[<-Int.add_mul,←Int.add_mul,←Int.add_mul,←e]
  rw[Int.mul_comm p 256,←Int.mul_assoc,Int.mul_comm p 65536,←Int.mul_assoc];omega
 ·unfold upd
  split
  ·omega
  ·split
   ·omega
   ·exact h2 i aH
theorem Cv.done {t o:Nat->Int} {c X:Int} (h:Cv t o 34 c) (hX:sm 65536 t 34=X) (hb:0<=X/\X<65536 ^ 34):sm 256 o 68=X:=by
 obtain⟨h1,h2,h3,h4⟩:=h;have hs:=lW (by decide:(0:Int)<256) h2;rw[hX] at h1;rw[show (68:Nat)=2 * 34 from rfl]
 generalize sm 256 o (2 * 34)=s at *
 have:c=0:=by omega
 subst this;omega
theorem ZA (A B:Int) (w:World) (hA:0<=A/\A<256 ^ 32) (hB:0<=B/\B<256 ^ 32):
  Calls Tryz.prog 251 #[.agg (arr .u8 32 (dg 256 A)),.agg (arr .u8 32 (dg 256 B))] w fun e w'=>
   e=.returned (.agg (arr .u8 32 (dg 256 (A * B % Q))))/\Below w.heap.size w w':=by
 have HA:=ak hA;have HB:=ak hB;clear hA hB
 go_enter Tryz.func251,Tryz.ntmps251
 go_wp2
 refine aJ (fun w1=>aQ .u8 w1 w.heap.size 32 (dg 256 A)/\aQ .u8 w1 (w.heap.size+1) 32 (dg 256 B)/\aQ .u8 w1 (w.heap.size+2) 32 (fun _=>0)/\Below w.heap.size w w1)
  ⟨aQ.alloc (aQ.alloc (bU (by first | omega | (simp<;> omega)) (by rfl)) _) _,aQ.alloc (bU (by first | omega | (simp<;> omega)) (by rfl)) _,bU (by first | omega | (simp<;> omega)) (by rfl),(((bT _ _).alloc (bB _) _).alloc aR _).alloc (by simp;omega) _⟩ ?_
 rintro w1 ⟨hA,hB',hZ,aA⟩
 refine bG (n:=70) aS aS aS rfl
  (gZ [(6,4),(7,5)]) (eZ [(6,4),(7,5)]) (fun _=>arr .u32 17 (fun _=>0)) (fun i=>match i with | 4=>(arr .u32 17 (dg 65536 A)) | 5=>(arr .u32 17 (dg 65536 B)) | _=> #[]) (fun _=>251) (fun i=>match i with | 4=>5 | 5=>6 | _=>0)
  (fun ii vv _=>(match ii with | 0=>vv=.agg (arr .u8 32 (dg 256 A)) | 1=>vv=.agg (arr .u32 17 (dg 65536 A)) | 2=>vv=.agg (arr .u8 32 (dg 256 B)) | 3=>vv=.agg (arr .u32 17 (dg 65536 B)) | _=>True)) (fun _ _=>True) (fun _ _ _=>trivial) (fun _ _ _ _ _ _ _=>trivial) (fun _ _ _ _ h _=>h)
  (fJ rfl) (dU rfl) ?_ ?_ ?_ ?_
 ·refine cB ?_;refine⟨?_,?_,?_,?_,(fun h=>by cases h),(fun h=>by cases h),(fun _ h=>by cases h),(fun _ h=>by cases h),trivial⟩
  ·intro _ _ a w2 hB hF hd;exact aO <| aT (aF rfl dY rfl dh (hF.same 2 rfl) (hA.below hB hA.lt)) rfl
  ·intro _ _ a w2 hB hF hd;refine aO <| aD _ _ _ rfl Tryz.call213 _ (args1 (hd 0 _ rfl rfl rfl (aj rfl))) aR ((Bo A w2 HA.out).mono ?_);rintro e w3 ⟨rfl,hb⟩;exact⟨_,rfl,rfl,hb⟩
  ·intro _ _ a w2 hB hF hd;exact aO <| aT (aF rfl dY rfl dh (hF.same 3 rfl) (hB'.below hB hB'.lt)) rfl
  ·intro _ _ a w2 hB hF hd;refine aO <| aD _ _ _ rfl Tryz.call213 _ (args1 (hd 2 _ rfl rfl rfl (aj rfl))) aR ((Bo B w2 HB.out).mono ?_);rintro e w3 ⟨rfl,hb⟩;exact⟨_,rfl,rfl,hb⟩
 ·refine cB ?_;refine⟨(fun h=>by cases h),(fun h=>by cases h),(fun h=>by cases h),(fun h=>by cases h),?_,?_,(fun h=>by cases h),(fun h=>by cases h),trivial⟩
  ·exact fun _=>⟨rfl,rfl,fun a w2 K h=>aZ rfl rfl Tryz.zeroValue251 aR h⟩
  ·exact fun _=>⟨rfl,rfl,fun a w2 K h=>aZ rfl rfl Tryz.zeroValue251 aR h⟩
 ·refine cB ?_;refine⟨(fun _ h=>by cases h),(fun _ h=>by cases h),(fun _ h=>by cases h),(fun _ h=>by cases h),(fun _ h=>by cases h),(fun _ h=>by cases h),?_,?_,trivial⟩
  ·intro p hp;obtain rfl:4=p:=iy hp;exact⟨rfl,rfl,⟨_,rfl⟩,aj rfl,fun a w2 b K hB hF hd hx hb h=>bJ rfl rfl vI hx (hd 1 _ rfl rfl rfl (aj rfl)) hb h⟩
  ·intro p hp;obtain rfl:5=p:=iy hp;exact⟨rfl,rfl,⟨_,rfl⟩,aj rfl,fun a w2 b K hB hF hd hx hb h=>bJ rfl rfl vI hx (hd 3 _ rfl rfl rfl (aj rfl)) hb h⟩
 ·intro a w2 blk hB hF hS hv hfin dw;obtain⟨v4,IE,Lv⟩:=hv 4 _ rfl rfl;obtain⟨v5,xQ,FR⟩:=hv 5 _ rfl rfl;have ha:=aP rfl rfl hF [_,_,_,_,_,_,undef,undef] rfl ⟨hS 0 _ rfl rfl rfl,hS 1 _ rfl rfl rfl,hS 2 _ rfl rfl rfl,hS 3 _ rfl rfl rfl,v4,v5,trivial,trivial,trivial⟩;have f4:=hfin 6 _ 4 rfl rfl;have f5:=hfin 7 _ 5 rfl rfl;have Cb:=dw 4 5 _ _ rfl rfl rfl rfl aN;simp only[puts,Act.put,dK,dL,dM] at ha;subst ha;have V4:aQ .u32 w2 (blk 4) 17 (dg 65536 A):=⟨_,f4⟩
  have V5:aQ .u32 w2 (blk 5) 17 (dg 65536 B):=⟨_,f5⟩
  clear hS hv hfin dw hF v4 v5 f4 f5;have iK:=hA.below hB hA.lt;have gy:=hZ.below hB hZ.lt;have akg:=hZ.lt;have dP:=aA.trans (hB.mono aA.size);have hs1:=aA.size;obtain⟨x,hx⟩:∃x,x=blk 4:=⟨_,rfl⟩
  obtain⟨y,hy⟩:∃y,y=blk 5:=⟨_,rfl⟩
  rw[<-hx] at V4 Cb IE Lv ⊢;rw[<-hy] at V5 Cb xQ FR ⊢;clear hx hy hA hB' hZ hB aA iK Cb;go_wp2_with (refine bq rfl 251 _ rfl .u32 x 17 _ 117 DX vI rfl (aQ.alloc V4 _) ?_)
  go_loopw [21] (fun i wr=> ∃(k:Nat) (t:Nat->Int),k<=17/\i=.int .i64 k/\CF t (dg 65536 A) (dg 65536 B) k 0/\aQ .u32 wr y 17 (dg 65536 B)/\aQ .u64 wr w2.heap.size 34 t/\aQ .u8 wr (w.heap.size+2) 32 (fun _=>0)/\Below w.heap.size w wr) (fun i _=>17 - (intOf i).toNat)
  case atStart=>exact⟨0,_,gX _,rfl,CF.zero _ _,aQ.alloc V5 _,bU rfl (by rfl),aQ.alloc gy _,dP.alloc dP.size _⟩
  case round=>
   obtain⟨k,t,hk,rfl,hC,hY,hT,hZ,aA⟩:=hrel;by_cases hlt:k<17
   ·have hix:=gM (f:=dg 65536 A) DX Tryz.underlying117 Tryz.size117 k hlt;have HCC:=ak hC;clear hC;go_wp2_with (refine bq rfl 251 _ rfl .u32 y 17 _ 117 DX vI rfl hY ?_);have HY:=ak hY;have HT:=ak hT;have HZ:=ak hZ;have alM:=ak aA;clear hY hT hZ aA hix
    go_loopw [26] (fun i wr=> ∃(j:Nat) (t:Nat->Int),j<=17/\i=.int .i64 j/\CF t (dg 65536 A) (dg 65536 B) k j/\aQ .u32 wr y 17 (dg 65536 B)/\aQ .u64 wr w2.heap.size 34 t/\aQ .u8 wr (w.heap.size+2) 32 (fun _=>0)/\Below w.heap.size w wr) (fun i _=>17 - (intOf i).toNat)
    case atStart=>exact⟨0,_,gX _,rfl,HCC.out,HY.out,HT.out,HZ.out,alM.out⟩
    case round=>
     obtain⟨j,u,hj,rfl,hC,hY,hT,hZ,aA⟩:=hrel;by_cases hjt:j<17
     ·have hiy:=gM (f:=dg 65536 B) DX Tryz.underlying117 Tryz.size117 j hjt;have e1:=hT.cell (k+j) aH;have f1:=hT.free (k+j);obtain⟨b0,b1⟩:=aV (by decide:(0:Int)<65536) A k;obtain⟨b2,b3⟩:=aV (by decide:(0:Int)<65536) B j;obtain⟨m0,m1⟩:=Ug b0 aH b2 aH;obtain⟨u0,_,u1⟩:=hC.2 (k+j);have u2:=u1 (bB _);have hwm:=iY m0 aH;have hws:=iY (x:=u (k+j)+dg 65536 A k * dg 65536 B j) aH aH;have gF:=hC.step hlt hjt ⟨b0,b1⟩ ⟨b2,b3⟩;have HST:=ak gF;have HY2:=ak hY;have HT2:=ak hT;have HZ2:=ak hZ;clear hC hY hT hZ u1 gF;go_wp2;go_roundw
      case rel=>exact⟨j+1,_,by omega,by go_num,HST.out,HY2.out.other (by first | omega | (simp<;> omega)) _,HT2.out.set (k+j) _,HZ2.out.other (by first | omega | (simp<;> omega)) _,aA.setCell (by first | omega | (simp<;> omega)) _⟩
      case measure=>simp[intOf] <;> omega
     ·obtain rfl:j=17:=by omega
      go_wp2_with fail;go_roundw
      case rel=>exact⟨k+1,u,by omega,by go_num,hC.row,hY,hT,hZ,aA⟩
      case measure=>simp[intOf] <;> omega
   ·obtain rfl:k=17:=by omega
    have hsum:sm 65536 t 34=A * B:=by
     rw[hC.1,show sm 65536 (dg 65536 B) 0=0 from rfl,rF aN,rF aN,uO HA.out.1 (Int.lt_trans HA.out.2 aN),uO HB.out.1 (Int.lt_trans HB.out.2 aN),Int.mul_zero,Int.add_zero]
    have afR:∀k,0<=t k/\t k<=77307052050:=fun k=>by
     have h:=hC.2 k;rcases Nat.lt_or_ge k (17+0) with h' | h'
     ·have:=h.2.1 h';have:=h.1;omega
     ·have:=h.2.2 h';have:=h.1;omega
    have HS:=ak hsum;have ahx:=ak afR;clear hsum afR hC hY;have hT1:=aQ.alloc hT (.cells (arr .u8 68 (fun _=>0)) 297);have hZ1:=aQ.alloc hZ (.cells (arr .u8 68 (fun _=>0)) 297);go_wp2_with (refine bq rfl 296 _ rfl .u64 w2.heap.size 34 _ 132 Tryz.underlying296 Tryz.size296 rfl hT1 ?_);have fP:=aA.alloc aA.size (.cells (arr .u8 68 (fun _=>0)) 297);have aqU:=hT.lt;have amS:=hZ.lt;have hs3:=aA.size;clear hT hT1 hZ aA
    go_loopw [13,45] (fun c i wq=> ∃(k:Nat) (z:Int) (o:Nat->Int),k<=34/\Cv t o k z/\c=.int .u64 z/\i=.int .i64 k/\aQ .u8 wq wr.heap.size 68 o/\aQ .u8 wq (w.heap.size+2) 32 (fun _=>0)/\Below w.heap.size w wq) (fun _ i _=>34 - (intOf i).toNat)
    case atStart=>exact⟨0,0,fun _=>0,gX _,Cv.zero _ _,rfl,rfl,bU (n:=68) (f:=fun _=>0) rfl (by rfl),hZ1,fP⟩
    case round=>
     obtain⟨k,z,o,hk,hO,rfl,rfl,hR,hZ,aA⟩:=hrel;by_cases hlt:k<34
     ·have hix:=gM (f:=t) Tryz.underlying296 rC Tryz.size132 k hlt;have e2:=hR.cell (2 * k) aH;have e3:=hR.cell (2 * k+1) aH;have f2:=hR.free (2 * k);have f3:=hR.free (2 * k+1);obtain⟨t0,t1⟩:=ahx.out k;obtain⟨z0,z1⟩:=hO.2.2;have gF:=Cv.step hO (ahx.out k);have HST:=ak gF;have HR:=ak hR;have HZ2:=ak hZ;have hwn:=iY (x:=t k+z) aH aH;clear gF hR hZ hO;go_wp2;go_roundw
      case rel=>exact⟨k+1,_,_,by omega,HST.out,rfl,by go_num,(HR.out.set (2 * k) _).set (2 * k+1) _,(HZ2.out.other (by first | omega | (simp<;> omega)) _).other (by first | omega | (simp<;> omega)) _,(aA.setCell (by first | omega | (simp<;> omega)) _).setCell (by first | omega | (simp<;> omega)) _⟩
      case measure=>simp[intOf] <;> omega
     ·obtain rfl:k=34:=by omega
      have Sb:=hO.2.1;have hX:=Cv.done hO HS.out ⟨Int.mul_nonneg HA.out.1 HB.out.1,by
       have h1:=HA.out;have h2:=HB.out
       calc A * B<=256 ^ 32 * 256 ^ 32:=Int.mul_le_mul (vF h1.2) (vF h2.2) h2.1 aN
        _<65536 ^ 34:=by decide⟩
      have ZN:=ak Sb;have HX:=ak hX;have HR:=ak hR;have aqV:=hR.lt;clear hO Sb hX;go_wp2_with fail;refine(xX _ 68 o _ (HR.out.rd aN) ZN.out aN).mono ?_;rintro e w4 ⟨rfl,jd⟩;rw[HX.out];go_wp2_with fail;refine(yN _ _).mono ?_;rintro e w5 ⟨rfl,iX⟩;have rW:=(hZ.kept jd).kept iX;have kg:=aA.trans ((jd.mono aA.size).trans (iX.mono (jS aA.size jd.size)));clear jd iX hZ aA;go_wp2_with (refine aM rfl 22 _ _ rfl .u8 (w.heap.size+2) 32 (fun _=>0) _ dh rfl rfl rW ?_);refine bodyPost_ret (bg rfl _ _ .u8 (w.heap.size+2) 32 _ 5 rfl (rW.setRow _ _) dY dh) rfl ⟨rfl,aC kg aH _⟩
theorem NR (A B C:Int) (w:World) (hA:0<=A/\A<256 ^ 32) (hB:0<=B/\B<256 ^ 32) (hC:0<=C/\C<256 ^ 32):
  Calls Tryz.prog 207 #[.agg (arr .u8 32 (dg 256 A)),.agg (arr .u8 32 (dg 256 B)),.agg (arr .u8 32 (dg 256 C))] w fun e w'=>
   e=.returned (.agg (arr .u8 32 (dg 256 ((A * B % Q+C) % Q))))/\Below w.heap.size w w':=by
 have HA:=ak hA;have HB:=ak hB;have HC:=ak hC;clear hA hB hC
 go_enter Tryz.func207,Tryz.ntmps207
 go_wp2
 refine aJ (fun w1=>aQ .u8 w1 w.heap.size 32 (dg 256 A)/\aQ .u8 w1 (w.heap.size+1) 32 (dg 256 B)/\aQ .u8 w1 (w.heap.size+2) 32 (dg 256 C)/\aQ .u8 w1 (w.heap.size+3) 32 (fun _=>0)/\Below w.heap.size w w1)
  ⟨aQ.alloc (aQ.alloc (aQ.alloc (bU (by first | omega | (simp<;> omega)) (by rfl)) _) _) _,aQ.alloc (aQ.alloc (bU (by first | omega | (simp<;> omega)) (by rfl)) _) _,aQ.alloc (bU (by first | omega | (simp<;> omega)) (by rfl)) _,bU (by first | omega | (simp<;> omega)) (by rfl),((((bT _ _).alloc (bB _) _).alloc aR _).alloc (by simp;omega) _).alloc (by simp;omega) _⟩ ?_
 rintro w1 ⟨hA,hB',hC,hZ,aA⟩
 refine fT (n:=12) 5 rfl aN aS aS aS aS rfl
  (fun ii vv _=>(match ii with | 0=>vv=.agg (arr .u8 32 (dg 256 A)) | 1=>vv=.agg (arr .u8 32 (dg 256 B)) | 2=>vv=.agg (arr .u8 32 (dg 256 (A * B % Q))) | 3=>vv=.agg (arr .u8 32 (dg 256 C)) | 4=>vv=.agg (arr .u8 32 (dg 256 ((A * B % Q+C) % Q))) | _=>True))
  (fun w w'=>Below w.heap.size w w') (fun _ _ h=>h) (fun _ _ _ _ h _=>h) rfl ?_ ?_
 ·refine cB ?_;refine⟨?_,?_,?_,?_,?_,(fun h=>absurd rfl h),trivial⟩
  ·intro _ a w2 hB hF hd;exact aO <| aT (aF rfl dY rfl dh (hF.same 3 rfl) (hA.below hB hA.lt)) rfl
  ·intro _ a w2 hB hF hd;exact aO <| aT (aF rfl dY rfl dh (hF.same 4 rfl) (hB'.below hB hB'.lt)) rfl
  ·intro _ a w2 hB hF hd;refine aO <| aD _ _ _ rfl Tryz.call251 _ (args2 (hd 0 _ rfl (aj rfl)) (hd 1 _ rfl (aj rfl))) aR ((ZA A B w2 HA.out HB.out).mono ?_);rintro e w3 ⟨rfl,hb⟩;exact⟨_,rfl,rfl,hb⟩
  ·intro _ a w2 hB hF hd;exact aO <| aT (aF rfl dY rfl dh (hF.same 5 rfl) (hC.below hB hC.lt)) rfl
  ·intro _ a w2 hB hF hd;refine aO <| aD _ _ _ rfl Tryz.call250 _ (args2 (hd 2 _ rfl (aj rfl)) (hd 3 _ rfl (aj rfl))) aR ((ZR (A * B % Q) C w2 (QA _) HC.out).mono ?_);rintro e w3 ⟨rfl,hb⟩;exact⟨_,rfl,rfl,hb⟩
 ·intro a w2 hB hF hS;have ha:=aP rfl rfl hF [_,_,_,_,_,undef] rfl ⟨hS 0 _ rfl aN,hS 1 _ rfl aN,hS 2 _ rfl aN,hS 3 _ rfl aN,hS 4 _ rfl aN,trivial,trivial⟩;simp only[puts,Act.put,dK,dL,dM] at ha;subst ha;clear hS hF;have gy:=hZ.below hB hZ.lt;have dP:=aA.trans (hB.mono aA.size);refine bE 22 _ _ rfl .u8 (w.heap.size+3) 32 (fun _=>0) _ dh rfl rfl gy ?_;clear hA hB' hC hZ aA hB;go_wp2;refine bodyPost_ret (bg rfl _ _ .u8 (w.heap.size+3) 32 _ 5 rfl (gy.setRow _ _) dY dh) rfl ⟨rfl,aC dP aH _⟩
def dec:List Nat:= [50,55,55,52,50,51,49,55,55,55,55,51,55,50,51,53,51,53,51,53,56,53,49,57,51,55,55,57,48,56,56,51,54,52,56,52,57,51]
def uy:Nat->Int
 | 0=>0
 | n+1=>10 * uy n+((dec.getD n 48:Nat) - 48)
def Nr (X b:Int) (k:Nat):Int:=(10 * X+b) / 65536 ^ k - 10 * (X / 65536 ^ k)
theorem Rk (X b:Int):Nr X b 0=b:=by simp[Nr];omega
theorem Rl (X b:Int) (k:Nat):(10 * dg 65536 X k+Nr X b k) % 65536=dg 65536 (10 * X+b) k/\(10 * dg 65536 X k+Nr X b k) / 65536=Nr X b (k+1):=by
 unfold Nr dg;rw[dJ aN X,dJ aN (10 * X+b)];omega
theorem Rc (i:Nat) (h:i<38):48<=dec.getD i 48/\dec.getD i 48<=57:=by
 have key:∀i:Fin 38,48<=dec.getD i.val 48/\dec.getD i.val 48<=57:=by decide
 exact key ⟨i,h⟩
theorem VT:∀i,i<16->upd (dg 65536 (uy 38)) 15 (dg 65536 (uy 38) 15+4096) i=dg 65536 Q i:=by
 have key:∀i:Fin 16,upd (dg 65536 (uy 38)) 15 (dg 65536 (uy 38) 15+4096) i.val=dg 65536 Q i.val:=by decide
 exact fun i h=>key ⟨i,h⟩
theorem VU (i:Nat) (h:i<38) (h':i<(⟨#[50,55,55,52,50,51,49,55,55,55,55,51,55,50,51,53,51,53,51,53,56,53,49,57,51,55,55,57,48,56,56,51,54,52,56,52,57,51]⟩:ByteArray).size):(⟨#[50,55,55,52,50,51,49,55,55,55,55,51,55,50,51,53,51,53,51,53,56,53,49,57,51,55,55,57,48,56,56,51,54,52,56,52,57,51]⟩:ByteArray)[i].toNat=dec.getD i 48:=by
 have key:∀i:Fin 38,((⟨#[50,55,55,52,50,51,49,55,55,55,55,51,55,50,51,53,51,53,51,53,56,53,49,57,51,55,55,57,48,56,56,51,54,52,56,52,57,51]⟩:ByteArray)[i.val]'i.isLt).toNat=dec.getD i.val 48:=by decide
 exact key ⟨i,h⟩
theorem abH (w:World):
  Calls Tryz.prog 208 #[] w fun e w'=>
   ∃v,e=.returned v/\Own .i64 3 w.heap.size w' v 16 (dg 65536 Q)/\Below w.heap.size w w':=by
 go_enter Tryz.func208,Tryz.ntmps208
 go_wp2_with (refine iB rfl _ _ 142 rfl w.heap.size 3 .i64 8 uP xJ .i64 .i64 16 rfl rfl aN aN (bB _) ?_;intro w1 bM bA);have eP:Below w.heap.size w w1:=dW (bT _ _) bA (bB _);clear bA
 go_loopw [3] (fun i wr=> ∃n:Nat,n<=38/\i=.int .i64 n/\Own .i64 3 w.heap.size wr (.slice (some ⟨w.heap.size,0,none⟩) 16 16) 16 (dg 65536 (uy n))/\Below w.heap.size w wr) (fun i _=>38 - (intOf i).toNat)
 case atStart=>exact⟨0,gX _,rfl,bM.congr (fun i _=>by simp[uy,adz]),eP⟩
 case round=>
  obtain⟨n,hn,rfl,ho,aA⟩:=hrel;by_cases hlt:n<38
  ·obtain⟨d0,d1⟩:=Rc n hlt;have hby:=VU n hlt hlt;have HD:Hid (uy (n+1)=10 * uy n+((dec.getD n 48:Nat) - 48)):=rfl;obtain⟨c,hc⟩:∃c,c=dec.getD n 48:=⟨_,rfl⟩
   rw[<-hc] at d0 d1 hby HD;clear hc;have HO:=ak ho;clear ho;have HB:=ak aA;clear aA;go_wp2
   go_loopw [4,5] (fun x i wr=> ∃(k:Nat) (z:Int),k<=16/\z=Nr (uy n) ((c:Int) - 48) k/\0<=z/\z<=9/\x=.int .i64 z/\i=.int .i64 k/\Own .i64 3 w.heap.size wr (.slice (some ⟨w.heap.size,0,none⟩) 16 16) 16 (upto k (dg 65536 (10 * uy n+((c:Int) - 48))) (dg 65536 (uy n)))/\Below w.heap.size w wr) (fun _ i _=>16 - (intOf i).toNat)
   case atStart=>exact⟨0,(c:Int) - 48,gX _,(Rk _ _).symm,by omega,by omega,rfl,rfl,by rw[dH];exact HO.out,HB.out⟩
   case round=>
    obtain⟨k,z,hk,hz,z0,z1,rfl,rfl,ho,aA⟩:=hrel;have HZ:=ak hz;clear hz;by_cases hkt:k<16
    ·obtain⟨g,cc,he,_,_,_,_,hcell,hfree⟩:=ho.form aN;simp only[DV,CO,Addr.mk.injEq] at he;obtain⟨⟨rfl,_⟩,_⟩:=he;have e1:=hcell k hkt;have f1:=hfree k;rw[upto_at] at e1;obtain⟨x0,x1⟩:=aV (by decide:(0:Int)<65536) (uy n) k;have gF:=Rl (uy n) ((c:Int) - 48) k;rw[<-HZ.out] at gF;have HST:=ak gF;have tT:=ak ho;clear ho gF hcell hfree;go_wp2;go_roundw
     case rel=>exact⟨k+1,_,by omega,HST.out.2,by omega,by omega,rfl,by go_num,by rw[<-bW HST.out.1];exact tT.out.store k _,aA.setCell (bB _) _⟩
     case measure=>simp[intOf] <;> omega
    ·obtain rfl:k=16:=by omega
     have tT:=ak ho;clear ho;go_wp2;go_roundw
     case rel=>exact⟨n+1,by omega,by go_num,by rw[HD.out];exact tT.out.congr (dQ _ _ (bB _)),aA⟩
     case measure=>simp[intOf] <;> omega
  ·obtain rfl:n=38:=by omega
   obtain⟨g,cc,he,_,_,_,_,hcell,hfree⟩:=ho.form aN;simp only[DV,CO,Addr.mk.injEq] at he;obtain⟨⟨rfl,_⟩,_⟩:=he;have e1:=hcell 15 aN;have f1:=hfree 15;obtain⟨x0,x1⟩:=aV (by decide:(0:Int)<65536) (uy 38) 15;have HO:=ak ho;clear ho hcell hfree;obtain⟨t,ht⟩:∃t,t=dg 65536 (uy 38) 15:=⟨_,rfl⟩
   rw[<-ht] at e1 x0 x1;have HT:=ak ht;clear ht;go_wp2;go_ret;exact⟨_,rfl,(HO.out.store 15 _).congr (by rw[HT.out];exact VT),aA.setCell (bB _) _⟩
theorem Q17:0<=Q/\Q<65536 ^ 17:=by decide
theorem YJ (Y:Int) (b:Nat) (h:b<16):Y % 65536 / 2 ^ b % 2=Y / 2 ^ b % 2:=by
 have hp:(0:Int)<2 ^ b:=Int.pow_pos aN;have e:(65536:Int)=2 ^ b * (2 ^ (15 - b) * 2):=by
  rw[<-Int.pow_succ,←Int.pow_add,show b+(15 - b+1)=16 by omega];rfl
 have h1:=DW Y 65536;rw[e] at h1 ⊢
 generalize hr:Y % (2 ^ b * (2 ^ (15 - b) * 2))=r at h1 ⊢
 generalize Y / (2 ^ b * (2 ^ (15 - b) * 2))=q at h1
 rw[<-h1,Int.mul_assoc,Int.mul_comm (2 ^ b),Int.add_mul_ediv_right _ _ aH,Int.mul_comm (2 ^ (15 - b)),Int.mul_assoc,Int.add_mul_emod_self_left]
theorem Ui (X:Int) (m b:Nat) (h:b<16):once (2 * (X / 65536 ^ m / 2 ^ (b+1) % Q)+dg 65536 X m / ((2 ^ b:Nat):Int) % 2)=X / 65536 ^ m / 2 ^ b % Q:=by
 have h1:=EH (X / 65536 ^ m) b;rw[<-YJ (X / 65536 ^ m) b h] at h1;rw[<-h1];unfold dg;rw[show (((2:Nat) ^ b:Nat):Int)=(2:Int) ^ b by simp]
theorem AZ (v:Value) (X:Int) (n:Nat) (hn:n<=1000) (hX:0<=X/\X<65536 ^ n) (w:World) (hv:Rd .i64 w v n (dg 65536 X)):
  Calls Tryz.prog 153 #[v] w fun e w'=>
   ∃v,e=.returned v/\Rd .i64 w' v 16 (dg 65536 (X % Q))/\Below w.heap.size w w':=by
 have HV:=ak hv;obtain⟨a1,c1,rfl,l1,m1,z1,h1⟩:=hv;have H1:=ak h1;have HX:=ak hX;clear z1 h1 hX
 go_enter Tryz.func153,Tryz.ntmps153
 go_wp2_with fail;refine(abH w).mono ?_;rintro e w1 ⟨q,rfl,hq,eP⟩
 go_wp2_with (first
  | (at_builtin;refine cO rfl _ _ 142 rfl w.heap.size 3 .i64 8 uP xJ _ 16 (dg 65536 Q) _ _ rfl hq rfl 1 rfl rfl ?_ aN aN eP.size ?_;rotate_right;intro v' w2 bM bA)
  | (refine iB rfl _ _ 142 rfl w2.heap.size 3 .i64 8 uP xJ .i64 .i64 17 rfl rfl aN aN (bB _) ?_;intro w3 hown3 hgrow3))
 ·have dP:Below w.heap.size w w2:=below_grown ((eP.alloc eP.size _)) bA hq (by simp;have:=eP.size;omega) (bB _);have fP:Below w2.heap.size w2 w3:=dW (bT _ _) hgrow3 (bB _);have hQ:Rd .i64 w2 v' 17 (dg 65536 Q):=bM.rd;have HQ:=ak hQ;clear bA hgrow3 hq eP bM hQ
  go_loopw [4,5] (fun r i wr=> ∃k:Nat,k<=n/\i=.int .i64 ((k:Int) - 1)/\Own .i64 3 w2.heap.size wr r 17 (dg 65536 (X / 65536 ^ k % Q))/\Below w2.heap.size w2 wr) (fun _ i _=>(intOf i+1).toNat)
  case atStart=>exact⟨n,bB _,rfl,hown3.congr (fun i _=>by rw[CP HX.out.1 HX.out.2];simp[dg]),fP⟩
  case round=>
   obtain⟨k,hk,rfl,ho,aA⟩:=hrel;obtain _ | m:=k
   ·obtain⟨g,cc,rfl,_,hgl,hc17,hcc,hcell,_⟩:=ho.form aN;clear ho;have hr:Rd .i64 wr (.slice (some ⟨g,0,none⟩) 16 cc) 16 (dg 65536 (X / 65536 ^ 0 % Q)):=⟨_,cc,rfl,by omega,hcc,(fun h=>by cases h),fun _=>⟨g,0,rfl,hgl,fun i hi=>by rw[oD];exact hcell i aH⟩⟩
    have HR:=ak hr;clear hr hcell;go_wp2;go_ret;exact⟨_,rfl,by have:=HR.out;rwa [Int.pow_zero,Int.ediv_one] at this,dP.trans (aA.mono dP.size)⟩
   ·have HO:=ak ho;have HB:=ak aA;clear ho aA;go_wp2
    go_loopw [4,6] (fun r x wr=> ∃b:Nat,b<=16/\x=.int .i64 ((2 ^ b / 2:Nat):Int)/\Own .i64 3 w2.heap.size wr r 17 (dg 65536 (X / 65536 ^ m / 2 ^ b % Q))/\Below w2.heap.size w2 wr) (fun _ x _=>(intOf x).toNat)
    case atStart=>exact⟨16,bB _,rfl,by rw[show (2:Int) ^ 16=65536 from rfl,←dJ aN];exact HO.out,HB.out⟩
    case round=>
     obtain⟨b,hb,rfl,ho,aA⟩:=hrel;have tT:=ak ho;clear ho;obtain _ | b':=b
     ·go_wp2;go_roundw
      case rel=>exact⟨m,by omega,by go_num,by have:=tT.out;rwa [Int.pow_zero,Int.ediv_one] at this,aA⟩
      case measure=>simp[intOf] <;> omega
     ·have hd2:(2 ^ (b'+1) / 2:Nat)=2 ^ b':=by rw[Nat.pow_succ];omega
      rw[hd2];obtain⟨D,hD⟩:∃D:Nat,D=2 ^ b':=⟨_,rfl⟩
      have hD0:0<D:=by rw[hD];exact Nat.pow_pos aN
      have hD1:D<=32768:=by rw[hD];exact Nat.pow_le_pow_right aN (by omega:b'<=15)
      rw[<-hD];have Xp:=ak hD;clear hD hd2;obtain⟨b1,o1,rfl,s1,e1⟩:=H1.out aH;have c1:=((dP.trans (aA.mono dP.size)).cell (p:=⟨b1,o1+m,none⟩) s1).trans (e1 m aH);have hkm:((m+1:Nat):Int) - 1=(m:Int):=by omega
      rw[hkm];clear e1;obtain⟨x0,x1⟩:=aV (by decide:(0:Int)<65536) X m;obtain⟨q,hq⟩:∃q,q=(dg 65536 X m).tdiv (D:Int):=⟨_,rfl⟩
      have hqe:q=dg 65536 X m / D:=by rw[hq,Pg x0]
      have q0:0<=q:=by rw[hqe];exact Int.ediv_nonneg x0 aH
      have q1:q<65536:=by rw[hqe];exact Int.lt_of_le_of_lt (Int.ediv_le_self _ x0) x1
      have hq':=hq.symm;have HQE:=ak hqe;clear hq hqe;obtain⟨g,cc,rfl,hg0,hgl,hc17,hcc,hcell,hfree⟩:=tT.out.form aN;clear hcell hfree;obtain⟨R,hR⟩:∃R,R=X / 65536 ^ m / 2 ^ (b'+1) % Q:=⟨_,rfl⟩
      rw[<-hR] at tT;have HRR:=ak hR;have zT:=ak aA;clear hR aA;obtain⟨c,hc⟩:∃c,c=q % 2:=⟨_,rfl⟩
      have c0:0<=c/\c<=1:=by omega
      have hc':=hc.symm;have HCE:=ak hc;clear hc;go_wp2
      go_loopw [7,8] (fun x i wr=> ∃(k:Nat) (z:Int),k<=17/\z=Ce R c k/\0<=z/\z<=1/\x=.int .i64 z/\i=.int .i64 k/\Own .i64 3 w2.heap.size wr (.slice (some ⟨g,0,none⟩) 17 cc) 17 (upto k (dg 65536 (2 * R+c)) (dg 65536 R))/\Below w2.heap.size w2 wr) (fun _ i _=>17 - (intOf i).toNat)
      case atStart=>exact⟨0,c,gX _,(Fx _ _).symm,c0.1,c0.2,by rw[hc'],rfl,by rw[dH];exact tT.out,zT.out⟩
      case round=>
       obtain⟨k,z,hk,hz,z0,z1,rfl,rfl,ho,aA⟩:=hrel;have HZ:=ak hz;clear hz;by_cases hkt:k<17
       ·obtain⟨g',cc',he,_,_,_,_,hcell,hfree⟩:=ho.form aN;simp only[DV,CO,Addr.mk.injEq] at he;obtain⟨⟨rfl,_⟩,_⟩:=he;have e1:=hcell k hkt;have f1:=hfree k;rw[upto_at] at e1;obtain⟨x0,x1⟩:=aV (by decide:(0:Int)<65536) R k;have gF:=Ns R c k;rw[<-HZ.out] at gF;have HST:=ak gF;have Xk:=ak ho;clear ho gF hcell hfree;go_wp2;go_roundw
        case rel=>exact⟨k+1,_,by omega,HST.out.2,by omega,by omega,rfl,by go_num,by rw[<-bW HST.out.1];exact Xk.out.store k _,aA.setCell hg0 _⟩
        case measure=>simp[intOf] <;> omega
       ·obtain rfl:k=17:=by omega
        have ho3:=ho.congr (dQ _ _ (bB _));have Xk:=ak ho3;clear ho ho3;have afV:0<=2 * R+c/\2 * R+c<65536 ^ 17:=by rw[HRR.out];exact Bh _ _ c0
        have alL:=ak afV;have hfin:once (2 * R+c)=X / 65536 ^ m / 2 ^ b' % Q:=by rw[HRR.out,HCE.out,HQE.out,Xp.out];exact Ui X m b' aH
        have ahs:=ak hfin;have fD:=aA.size;clear afV hfin;have hcon:=qL _ v' (2 * R+c) Q 17 17 (bB _) wr Xk.out.rd (HQ.out.below aA) alL.out Q17;by_cases hge:Q<=2 * R+c
        ·rw[decide_eq_true hge] at hcon;have hon:once (2 * R+c)=2 * R+c - Q:=by unfold once;rw[if_pos hge]
         rw[ahs.out] at hon;have HON:=ak hon;have Cz:=ak hcon;clear hon hge hcon;go_wp2_with fail;refine(Cz.out).mono ?_;rintro e w5 ⟨rfl,iX⟩;go_wp2_with fail;refine(lG _ v' (2 * R+c) Q 17 17 (bB _) aN w5 (Xk.out.rd.below iX) ((HQ.out.below aA).below iX)).mono ?_;rintro e w6 ⟨v6,rfl,Xv,kg⟩;have ZO:=ak Xv;clear Xv;go_wp2;go_roundw
         case rel=>exact⟨b',by omega,by rw[<-Xp.out];rfl,by rw[HON.out];exact ZO.out.mono (by have:=iX.size;omega),(aA.trans (iX.mono fD)).trans (kg.mono (by have:=iX.size;omega))⟩
         case measure=>simp[intOf] <;> omega
        ·rw[decide_eq_false hge] at hcon;have hon:once (2 * R+c)=2 * R+c:=by unfold once;rw[if_neg hge]
         rw[ahs.out] at hon;have HON:=ak hon;have Cz:=ak hcon;clear hon hge hcon;go_wp2_with fail;refine(Cz.out).mono ?_;rintro e w5 ⟨rfl,iX⟩;go_wp2;go_roundw
         case rel=>exact⟨b',by omega,by rw[<-Xp.out];rfl,by rw[HON.out];exact Xk.out.below iX,aA.trans (iX.mono fD)⟩
         case measure=>simp[intOf] <;> omega
 ·intro i hi;obtain rfl:i=0:=by omega
  rfl
theorem Zl {X:Int} {n j:Nat} (hX:0<=X/\X<256 ^ n) (h:n<=j):dg 256 X j=0:=
 mJ ⟨hX.1,Int.lt_of_lt_of_le hX.2 (jg 256 aN n j h)⟩
theorem Gw (j:Nat):(256:Int) ^ (2 * j)=65536 ^ j:=by rw[Int.pow_mul];rfl
theorem MZ {X:Int} {n:Nat} (hX:0<=X/\X<256 ^ n):0<=X/\X<65536 ^ ((n+1) / 2):=by
 refine⟨hX.1,Int.lt_of_lt_of_le hX.2 ?_⟩;rw[<-Gw];exact jg 256 aN _ _ aH
theorem Yc (v:Value) (X:Int) (n:Nat) (hn:n<=1000) (hX:0<=X/\X<256 ^ n) (w:World) (hv:Rd .u8 w v n (dg 256 X)):
  Calls Tryz.prog 151 #[v] w fun e w'=>
   e=.returned (.agg (arr .u8 32 (dg 256 (X % Q))))/\Below w.heap.size w w':=by
 obtain⟨a1,c1,rfl,l1,m1,z1,h1⟩:=hv;have H1:=ak h1;have HX:=ak hX;clear z1 h1 hX
 go_enter Tryz.func151,Tryz.ntmps151
 go_wp2
 go_loopw [3,4] (fun v i wr=> ∃j:Nat,j<=(n+1) / 2/\i=.int .i64 (2 * j:Nat)/\Own .i64 3 (w.heap.size+1) wr v j (dg 65536 X)/\aQ .u8 wr w.heap.size 32 (fun _=>0)/\Below w.heap.size w wr) (fun _ i _=>n+1 - (intOf i).toNat)
 case atStart=>exact⟨0,gX _,rfl,Own.nil _ _ _ _ _,bU (by first | omega | (simp<;> omega)) (by rfl),(bT _ _).alloc (bB _) _⟩
 case round=>
  obtain⟨j,hj,rfl,ho,hA,aA⟩:=hrel;have HO:=ak ho;have HA:=ak hA;have akr:=hA.lt;have fD:=aA.size;have gB:=HO.out.far (Nat.lt_succ_self w.heap.size);clear ho hA;by_cases hlt:2 * j<n
  ·obtain⟨b,off,rfl,s1,hcell⟩:=H1.out aH;have e0:=(aA.cell (p:=⟨b,off+2 * j,none⟩) s1).trans (hcell (2 * j) hlt);obtain⟨p0,p0'⟩:=aV (by decide:(0:Int)<256) X (2 * j);obtain⟨p1,p1'⟩:=aV (by decide:(0:Int)<256) X (2 * j+1);have hp:=yt X j;have HP:Hid (dg 256 X (2 * j)+256 * dg 256 X (2 * j+1)=dg 65536 X j):=by unfold Hid;omega
   clear hp;by_cases hlt2:2 * j+1<n
   ·have e1:=(aA.cell (p:=⟨b,off+(2 * j+1),none⟩) s1).trans (hcell (2 * j+1) hlt2);clear hcell;go_wp2_with (at_builtin;refine cO rfl _ _ 142 rfl (w.heap.size+1) 3 .i64 8 uP xJ _ j (dg 65536 X) _ _ rfl HO.out rfl 1 rfl rfl ?_ aH aH aH ?_;rotate_right;intro v' w1 bM bA)
    ·go_roundw
     case rel=>exact⟨j+1,by omega,by go_num,bM,(aQ.alloc HA.out _).grown bA gB,below_grown (aA.alloc fD _) bA HO.out (by simp;omega) aH⟩
     case measure=>simp[intOf] <;> omega
    ·intro i hi;exact jU hi (by rw[show j+i=j by omega];exact HP.out)
   ·have hz:Hid (dg 256 X (2 * j+1)=0):=Zl HX.out aH;clear hcell;go_wp2_with (at_builtin;refine cO rfl _ _ 142 rfl (w.heap.size+1) 3 .i64 8 uP xJ _ j (dg 65536 X) _ _ rfl HO.out rfl 1 rfl rfl ?_ aH aH aH ?_;rotate_right;intro v' w1 bM bA)
    ·go_roundw
     case rel=>exact⟨j+1,by omega,by go_num,bM,(aQ.alloc HA.out _).grown bA gB,below_grown (aA.alloc fD _) bA HO.out (by simp;omega) aH⟩
     case measure=>simp[intOf] <;> omega
    ·intro i hi;exact jU hi (by rw[show j+i=j by omega];have:=HP.out;have:=hz.out;omega)
  ·obtain rfl:j=(n+1) / 2:=by omega
   go_wp2_with fail;refine(AZ _ X ((n+1) / 2) aH (MZ HX.out) _ HO.out.rd).mono ?_;rintro e w2 ⟨v2,rfl,hv2,dP⟩;have HV2:=ak hv2;clear hv2;go_wp2_with fail;refine(kr _ (X % Q) 16 aN _ HV2.out).mono ?_;rintro e w3 ⟨rfl,fP⟩;have hZ:=(HA.out.kept dP).below fP (by have:=dP.size;omega);have hB:Below w.heap.size w w3:=(aA.trans (dP.mono fD)).trans (fP.mono (by have:=dP.size;omega));clear aA dP fP;go_wp2_with (refine aM rfl 22 _ _ rfl .u8 w.heap.size 32 (fun _=>0) _ dh rfl rfl hZ ?_);exact bodyPost_ret (bg rfl _ _ .u8 w.heap.size 32 _ 5 rfl (hZ.setRow _ _) dY dh) rfl ⟨rfl,aC hB (bB _) _⟩
theorem Wy {A B:Int} (hA:0<=A/\A<256 ^ 32) (hB:0<=B/\B<256 ^ 32):yM A B 16=dg 65536 (A+B) 16/\0<=A+B/\A+B<65536 ^ 17:=by
 have e:(256:Int) ^ 32=65536 ^ 16:=by decide
 rw[e] at hA hB;have h2:(65536:Int) ^ 17=65536 * 65536 ^ 16:=by decide
 refine⟨?_,by omega,by omega⟩;unfold yM dg;rw[CP hA.1 hA.2,CP hB.1 hB.2];have h3:(A+B) / 65536 ^ 16<65536:=Int.ediv_lt_of_lt_mul aN aH;have h4:0<=(A+B) / 65536 ^ 16:=Int.ediv_nonneg aH aN;omega
theorem TM (A B:Int) (w:World) (hA:0<=A/\A<256 ^ 32) (hB:0<=B/\B<256 ^ 32):
  Calls Tryz.prog 102 #[.agg (arr .u8 32 (dg 256 A)),.agg (arr .u8 32 (dg 256 B))] w fun e w'=>
   e=.returned (.agg (arr .u8 32 (dg 256 ((A+B) % Q))))/\Below w.heap.size w w':=by
 have HT:=ak (Wy hA hB);clear hA hB
 go_enter Tryz.func102,Tryz.ntmps102
 go_wp2_with (refine bq rfl 22 _ rfl .u8 w.heap.size 32 _ 5 dY dh rfl (aQ.alloc (aQ.alloc (aQ.new .u8 w 22 32 (dg 256 A)) _) _) ?_);refine(mg A _).mono ?_;rintro e w1 ⟨x,rfl,hx,eP⟩;have hB:aQ .u8 w1 (w.heap.size+1) 32 (dg 256 B):=aQ.kept (aQ.alloc (bU (by first | omega | (simp<;> omega)) (by rfl)) _) eP;have hZ:aQ .u8 w1 (w.heap.size+2) 32 (fun _=>0):=aQ.kept (bU (by first | omega | (simp<;> omega)) (by rfl)) eP;have hs1:w.heap.size+3<=w1.heap.size:=by have:=eP.size;simpa using this
 have dP:Below w.heap.size w w1:=((((bT _ _).alloc (bB _) _).alloc aR _).alloc (by simp;omega) _).trans (eP.mono (by simp;omega));have HX:=ak hx.rd;clear hx eP;go_wp2_with (refine bq rfl 22 _ rfl .u8 (w.heap.size+1) 32 _ 5 dY dh rfl hB ?_);refine(mg B _).mono ?_;rintro e w3 ⟨y,rfl,hy,fP⟩;have jy:=hZ.kept fP;have hb:=dP.trans (fP.mono aH);have XA:=ak (HX.out.below fP);have HY:=ak hy.rd;have hs3:w.heap.size+3<=w3.heap.size:=by have:=fP.size;omega
 clear hy dP fP hZ hB HX hs1;obtain⟨xa,xc,rfl,xl,xm,xz,xh⟩:=XA.out;obtain⟨ya,yc,rfl,yl,ym,yz,yh⟩:=HY.out;obtain⟨xb,xo,rfl,xs,xe⟩:=xh aN;obtain⟨yb,yo,rfl,ys,ye⟩:=yh aN;have XE:=ak xe;have YE:=ak ye;clear xz yz xe ye xh yh;go_wp2
 go_loopw [7,8,9] (fun v c i wr=> ∃(k:Nat) (z:Int),k<=16/\z=yM A B k/\0<=z/\z<=1/\c=.int .i64 z/\i=.int .i64 k/\Own .i64 3 w3.heap.size wr v k (dg 65536 (A+B))/\Below w3.heap.size w3 wr) (fun _ _ i _=>16 - (intOf i).toNat)
 case atStart=>exact⟨0,0,gX _,(yK _ _).symm,by decide,by decide,rfl,rfl,Own.nil _ _ _ _ _,bT _ _⟩
 case round=>
  obtain⟨k,z,hk,hz,z0,z1,rfl,rfl,ho,aA⟩:=hrel;have HZ:=ak hz;have HO:=ak ho;clear hz ho;have fD:=aA.size;by_cases hlt:k<16
  ·have c1:=(aA.cell (p:=⟨xb,xo+k,none⟩) xs).trans (XE.out k hlt);have c2:=(aA.cell (p:=⟨yb,yo+k,none⟩) ys).trans (YE.out k hlt);obtain⟨x0,x1⟩:=aV (by decide:(0:Int)<65536) A k;obtain⟨y0,y1⟩:=aV (by decide:(0:Int)<65536) B k;have u1:=bI (x:=dg 65536 A k+dg 65536 B k) aH aH;have u2:=bI (x:=dg 65536 A k+dg 65536 B k+z) aH aH;have gF:=yL A B k;rw[<-HZ.out] at gF;have HST:=ak gF;clear gF;go_wp2
   go_quiet (fail)
   clear u1 u2;go_wp2_with (at_builtin;refine cO rfl _ _ 142 rfl w3.heap.size 3 .i64 8 uP xJ _ k (dg 65536 (A+B)) _ _ rfl (HO.out.drewN _) rfl 1 rfl rfl ?_ aH aH fD ?_;rotate_right;intro v' w1 bM bA)
   ·go_roundw
    case rel=>exact⟨k+1,_,by omega,HST.out.2,by omega,by omega,rfl,by go_num,bM,below_grown ((below_drewN aA _).alloc fD _) bA HO.out (by simp;omega) (bB _)⟩
    case measure=>simp[intOf] <;> omega
   ·intro i hi;exact jU hi (by rw[show k+i=k by omega];exact HST.out.1)
  ·obtain rfl:k=16:=by omega
   have UO:z=dg 65536 (A+B) 16:=HZ.out.trans HT.out.1;have adK:=ak UO;clear UO;have Zc:=jy.kept aA;have hbw:=hb.trans (aA.mono aH);clear jy hb aA;go_wp2_with (at_builtin;refine cO rfl _ _ 142 rfl w3.heap.size 3 .i64 8 uP xJ _ 16 (dg 65536 (A+B)) _ _ rfl HO.out rfl 1 rfl rfl ?_ aH aH fD ?_;rotate_right;intro v' w5 bM bA)
   ·have gB:=HO.out.far (b:=w.heap.size+2) aH;have rW:=(aQ.alloc Zc _).grown bA gB;have iX:=below_grown (hbw.alloc aH _) bA HO.out (by simp;omega) aH;have HR:=ak bM.rd;clear bM bA Zc hbw gB;refine(AZ _ (A+B) 17 aH HT.out.2 _ HR.out).mono ?_;rintro e w6 ⟨v6,rfl,hv6,kg⟩;have sW:=rW.kept kg;have Sg:=iX.trans (kg.mono iX.size);have Li:=ak hv6;clear hv6 rW iX kg;go_wp2_with fail;refine(kr _ ((A+B) % Q) 16 aN _ Li.out).mono ?_;rintro e w7 ⟨rfl,IJ⟩;have EU:=sW.kept IJ;have Xx:=Sg.trans (IJ.mono Sg.size);clear sW Sg IJ;go_wp2_with (refine aM rfl 22 _ _ rfl .u8 (w.heap.size+2) 32 (fun _=>0) _ dh rfl rfl EU ?_);exact bodyPost_ret (bg rfl _ _ .u8 (w.heap.size+2) 32 _ 5 rfl (EU.setRow _ _) dY dh) rfl ⟨rfl,aC Xx aH _⟩
   ·intro i hi;exact jU hi (by rw[show 16+i=16 by omega];exact adK.out)
theorem TL (A B:Int) (w:World) (hA:0<=A/\A<256 ^ 32) (hB:0<=B/\B<256 ^ 32):
  Calls Tryz.prog 103 #[.agg (arr .u8 32 (dg 256 A)),.agg (arr .u8 32 (dg 256 B))] w fun e w'=>
   e=.returned (.agg (arr .u8 32 (dg 256 (A * B % Q))))/\Below w.heap.size w w':=by
 have e32:(256:Int) ^ 32=65536 ^ 16:=by decide
 rw[e32] at hA hB;have HA:=ak hA;have HB:=ak hB;clear hA hB e32
 go_enter Tryz.func103,Tryz.ntmps103
 go_wp2_with (refine bq rfl 22 _ rfl .u8 w.heap.size 32 _ 5 dY dh rfl (aQ.alloc (aQ.alloc (aQ.new .u8 w 22 32 (dg 256 A)) _) _) ?_);refine(mg A _).mono ?_;rintro e w1 ⟨x,rfl,hx,eP⟩;have hB:aQ .u8 w1 (w.heap.size+1) 32 (dg 256 B):=aQ.kept (aQ.alloc (bU (by first | omega | (simp<;> omega)) (by rfl)) _) eP;have hZ:aQ .u8 w1 (w.heap.size+2) 32 (fun _=>0):=aQ.kept (bU (by first | omega | (simp<;> omega)) (by rfl)) eP;have hs1:w.heap.size+3<=w1.heap.size:=by have:=eP.size;simpa using this
 have dP:Below w.heap.size w w1:=((((bT _ _).alloc (bB _) _).alloc aR _).alloc (by simp;omega) _).trans (eP.mono (by simp;omega));have HX:=ak hx.rd;clear hx eP;go_wp2_with (refine bq rfl 22 _ rfl .u8 (w.heap.size+1) 32 _ 5 dY dh rfl hB ?_);refine(mg B _).mono ?_;rintro e w3 ⟨y,rfl,hy,fP⟩;have jy:=hZ.kept fP;have hb:=dP.trans (fP.mono aH);have XA:=ak (HX.out.below fP);have HY:=ak hy.rd;have hs3:w.heap.size+3<=w3.heap.size:=by have:=fP.size;omega
 clear hy dP fP hZ hB HX hs1;obtain⟨xa,xc,rfl,xl,xm,xz,xh⟩:=XA.out;obtain⟨ya,yc,rfl,yl,ym,yz,yh⟩:=HY.out;obtain⟨xb,xo,rfl,xs,xe⟩:=xh aN;obtain⟨yb,yo,rfl,ys,ye⟩:=yh aN;have XE:=ak xe;have YE:=ak ye;clear xz yz xe ye xh yh;go_wp2_with (refine iB rfl _ _ 142 rfl w3.heap.size 3 .i64 8 uP xJ .i64 .i64 32 rfl rfl aN aN (bB _) ?_;intro w4 bM bA);have jd:Below w3.heap.size w3 w4:=dW (bT _ _) bA (bB _);clear bA
 go_loopw [8] (fun i wr=> ∃(k:Nat) (t:Nat->Int),k<=16/\i=.int .i64 k/\jq 16 16 A B t k 0 0/\Own .i64 3 w3.heap.size wr (.slice (some ⟨w3.heap.size,0,none⟩) 32 32) 32 t/\Below w3.heap.size w3 wr) (fun i _=>16 - (intOf i).toNat)
 case atStart=>exact⟨0,_,gX _,rfl,jq.zero _ _ _ _,bM,jd⟩
 case round=>
  obtain⟨i,t,hi,rfl,hM,ho,aA⟩:=hrel;have HM:=ak hM;have HO:=ak ho;clear hM ho;by_cases hlt:i<16
  ·have iq:=ak aA;clear aA;go_wp2
   go_loopw [9,10] (fun c j wr=> ∃(k:Nat) (z:Int) (t:Nat->Int),k<=16/\0<=z/\z<65536/\c=.int .i64 z/\j=.int .i64 k/\jq 16 16 A B t i k z/\Own .i64 3 w3.heap.size wr (.slice (some ⟨w3.heap.size,0,none⟩) 32 32) 32 t/\Below w3.heap.size w3 wr) (fun _ j _=>16 - (intOf j).toNat)
   case atStart=>exact⟨0,0,t,gX _,by decide,by decide,rfl,rfl,HM.out,HO.out,iq.out⟩
   case round=>
    clear HM HO iq;obtain⟨k,z,t,hk,z0,z1,rfl,rfl,hM,ho,aA⟩:=hrel;have HM:=ak hM;have HO:=ak ho;clear hM ho;obtain⟨g',cc',he,_,_,_,_,hcell,hfree⟩:=HO.out.form aN;simp only[DV,CO,Addr.mk.injEq] at he;obtain⟨⟨rfl,q1⟩,q2⟩:=he;clear q1 q2;by_cases hkt:k<16
    ·have e1:=hcell (i+k) aH;have f1:=hfree (i+k);have c1:=(aA.cell (p:=⟨xb,xo+i,none⟩) xs).trans (XE.out i hlt);have c2:=(aA.cell (p:=⟨yb,yo+k,none⟩) ys).trans (YE.out k hkt);obtain⟨m0,m1,m2,m3,m4,m5⟩:=HM.out.bound;have HST:=ak (HM.out.step hlt hkt);have NU:=ak (HST.out.2.2);have t0:=(HM.out.1 (i+k)).1;have t1:=(HM.out.1 (i+k)).2;obtain⟨x0,x1⟩:=aV (by decide:(0:Int)<65536) A i;obtain⟨y0,y1⟩:=aV (by decide:(0:Int)<65536) B k;clear hcell hfree;have i0:(0:Int)<=(i:Int)+k:=by omega
     have i1:(i:Int)+k<32:=by omega
     have i2:((i:Int)+k).toNat=i+k:=by omega
     have u0:=bI (x:=(i:Int)+k) aH aH;have u1:=bI (x:=dg 65536 A i * dg 65536 B k) aH aH;have u2:=bI (x:=t (i+k)+dg 65536 A i * dg 65536 B k) aH aH;have u3:=bI (x:=t (i+k)+dg 65536 A i * dg 65536 B k+z) aH aH;go_wp2
     go_quiet (fail)
     clear u1 u2 u3 u0;go_wp2;go_roundw
     case rel=>exact⟨k+1,_,_,by omega,NU.out.1,NU.out.2.1,rfl,by go_num,HST.out,(HO.out.drewN _).store (i+k) _,(below_drewN aA _).setCell (bB _) _⟩
     case measure=>simp[intOf] <;> omega
    ·obtain rfl:k=16:=by omega
     obtain⟨r0,r1⟩:=HM.out.row hlt HB.out;have R0:=ak r0;have R1:=ak r1;have e1:=hcell (i+16) aH;have f1:=hfree (i+16);rw[R0.out] at e1;clear hcell hfree r0 r1;go_wp2;go_roundw
     case rel=>exact⟨i+1,_,by omega,by go_num,R1.out,by rw[R0.out];have:=HO.out.store (i+16) z;rwa [show (0:Int)+z=z by omega],aA.setCell (bB _) _⟩
     case measure=>simp[intOf] <;> omega
  ·obtain rfl:i=16:=by omega
   have hr:=(HO.out.congr (HM.out.done HA.out)).rd;have HR:=ak hr;have Zc:=jy.kept aA;have hbw:=hb.trans (aA.mono aH);clear jy hb aA hr;go_wp2_with fail;refine(AZ _ (A * B) 32 aH (EM HA.out HB.out) _ HR.out).mono ?_;rintro e w6 ⟨v6,rfl,hv6,kg⟩;have sW:=Zc.kept kg;have Sg:=hbw.trans (kg.mono hbw.size);have Li:=ak hv6;clear hv6 Zc hbw kg;go_wp2_with fail;refine(kr _ (A * B % Q) 16 aN _ Li.out).mono ?_;rintro e w7 ⟨rfl,IJ⟩;have EU:=sW.kept IJ;have Xx:=Sg.trans (IJ.mono Sg.size);clear sW Sg IJ;go_wp2_with (refine aM rfl 22 _ _ rfl .u8 (w.heap.size+2) 32 (fun _=>0) _ dh rfl rfl EU ?_);exact bodyPost_ret (bg rfl _ _ .u8 (w.heap.size+2) 32 _ 5 rfl (EU.setRow _ _) dY dh) rfl ⟨rfl,aC Xx aH _⟩
end Go.Proofs.YtpcjekgfnfjbpaaGreat
