/- Part 23 of SuiteBytes; conditions: in each theorem. -/
import Derived.Test.YtpcjekgfnfjbpaaGreatPkSuiteBytes7
import Derived.Test.YtpcjekgfnfjbpaaGreatPkSuiteBytes11
import Derived.Test.YtpcjekgfnfjbpaaGreatPkSuiteBytes22
import Derived.Deep.Cut
set_option linter.unusedVariables false
set_option linter.unusedSimpArgs false
set_option maxRecDepth 100000
set_option maxHeartbeats 1600000
namespace Go.bC
theorem Wv {a:Nat} (h:1<=a/\a<=63):bits .and .u64 (IntKind.u64.wrap (-(a:Int))) 63=((64 - a:Nat):Int):=by
 have hw:IntKind.u64.wrap (-(a:Int))=18446744073709551616 - (a:Int):=by rw[IntKind.wrap_u64];omega
 rw[hw,u64_and _ _ aH aH aN aN];have:(18446744073709551616 - (a:Int)).toNat=18446744073709551616 - a:=by omega
 rw[this,show (63:Int).toNat=2 ^ 6 - 1 from rfl,Nat.and_two_pow_sub_one_eq_mod]
 congr 1
 omega
theorem aeT {x:Int} {k:Nat} (hk:k<=64):IntKind.u64.wrap (x * 2 ^ (min (Int.toNat (k:Int)) IntKind.u64.bits))=x * 2 ^ k % eF:=by
 rw[IntKind.wrap_u64,Ct,show IntKind.u64.bits=64 from rfl,Nat.min_eq_left hk]
 rfl
theorem Te {x:Int} {k:Nat} (hk:k<=64):Int.fdiv x (2 ^ (min (Int.toNat (k:Int)) IntKind.u64.bits))=x / 2 ^ k:=by
 rw[Ct,show IntKind.u64.bits=64 from rfl,Nat.min_eq_left hk,Int.fdiv_eq_ediv_of_nonneg _ (vF (Int.pow_pos aN))]
theorem eT {a:Int}:IntKind.u64.wrap a=a % eF:=IntKind.wrap_u64 a
theorem Lp {a:Nat} (h:a<=64):IntKind.u64.wrap (64 - ((64 - a:Nat):Int))=(a:Int):=by rw[IntKind.wrap_u64];omega
theorem Yb {a b:Int} (h:a=b):Ending.returned (.int .u64 a)=.returned (.int .u64 b):=by rw[h]
theorem UL {x y:Int} (h:x=y) (h0:0<=y) (h1:y<eF):IntKind.u64.wrap x=y:=by
 rw[h,IntKind.wrap_u64];unfold eF at h1;omega
theorem LA {x p q:Int} {n:Nat} (h0:0<=x) (h1:x<eF) (hn:1<=n/\n<=63) (hp:p=2 ^ n) (hq:q=9223372036854775808 / p):
  0<p/\0<=q/\q<=4611686018427387904/\q * 2=2 ^ (64 - n)/\0<=x % p * (q * 2)/\x % p * (q * 2)<eF/\x / p+x % p * (q * 2)=rr x n/\0<=rr x n/\rr x n<eF/\0<=x / p/\x / p<eF/\0<=x % p/\x % p<eF:=by
 have hp0:0<p:=by rw[hp];exact Int.pow_pos aN
 have e:(9223372036854775808:Int)=2 ^ (63 - n) * 2 ^ n:=by rw[<-Int.pow_add,show 63 - n+n=63 by omega];rfl
 have hq1:q=2 ^ (63 - n):=by rw[hq,e,hp,Int.mul_ediv_cancel _ (by rw[<-hp];omega)]
 have hq2:q * 2=2 ^ (64 - n):=by rw[hq1,←Int.pow_succ];congr 1;omega
 have hq3:q<=4611686018427387904:=by
  rw[hq1];have:=jg 2 aN (63 - n) 62 aH;exact this
 have hq4:0<q:=by rw[hq1];exact Int.pow_pos aN
 have hb:=JB h0 h1 (k:=n) aH;have hm:=Tq (x:=x) (k:=n) aH;have hs:x / p+x % p * (q * 2)=rr x n:=by unfold rr;rw[hm,hq2,hp,Int.add_comm]
 have d0:0<=x / p:=Int.ediv_nonneg h0 aH;have d1:x / p<=x:=Int.ediv_le_self _ h0;have m0:=zN x (show p≠0 by omega);have m1:x % p<=x:=by
  have:=Int.mul_ediv_add_emod x p;have:=Int.mul_nonneg (vF hp0) d0;omega
 have m2:0<=x % p * (q * 2):=Int.mul_nonneg m0 aH;exact⟨hp0,by omega,hq3,hq2,m2,by omega,hs,hb.1,hb.2,d0,by omega,m0,by omega⟩
end Go.bC
namespace Go.Proofs.YtpcjekgfnfjbpaaGreat
open Go.RowKit Go.bC
attribute [local go_sem ↓] Go.wp_at_zero Go.wp_at_succ
theorem nW (x:Int) (a:Nat) (ha:1<=a/\a<=63) (h0:0<=x/\x<eF) (k:Int) (hk:k= -(a:Int)) (w:World):
  Calls Tryz.prog 262 #[.int .u64 x,.int .i64 k] w fun e w'=>e=.returned (.int .u64 (rr x a))/\Below w.heap.size w w':=by
 have HA:=ak ha;have HX:=ak h0;have HC0:=ak (Wv ha);obtain⟨c,hc⟩:∃c,c=IntKind.u64.wrap (-(a:Int)):=⟨_,rfl⟩
 rw[<-hc] at HC0;have HC:Hid (IntKind.u64.wrap k=c):=by rw[hk,hc];exact rfl
 clear ha hk h0 hc
 go_enter Tryz.func262,Tryz.ntmps262
 go_upto_region 1 with(fail)
 refine aX (n:=17) aS aS aS rfl
  (fun ii vv _=>(match ii with | 0=>vv=.int .i64 (k) | 1=>vv=.int .u64 (c) | 2 | 3=>vv=.int .u64 (((64 - a:Nat):Int)) | _=>True))
  (fun w w'=>Below w.heap.size w w') (fun _ _ h=>h) (fun _ _ _ _ h _=>h) ?_ ?_
 ·refine cB ?_;refine⟨?_,?_,?_,?_,trivial⟩
  ·intro a w2 hB hF hd;exact aO <| aB _ (.inl rfl) aR (hF.same 1 rfl)
  ·intro a w2 hB hF hd;exact aO <| aT (kU rfl (hd 0 _ rfl (aj rfl)) Tryz.underlying3 Tryz.underlying212) (congrArg (Value.int .u64) (HC.out))
  ·intro a w2 hB hF hd;exact aO <| aT (Go.bC.iQ rfl (hd 1 _ rfl (aj rfl)) rfl) (congrArg (Value.int .u64) (HC0.out))
  ·intro a w2 hB hF hd;exact aO <| aB _ (.inr rfl) aR (hd 2 _ rfl (aj rfl))
 ·intro a w2 hB hF hS;have ha:=aP rfl rfl hF [_,_,_,_] rfl ⟨hS 0 _ rfl,hS 1 _ rfl,hS 2 _ rfl,hS 3 _ rfl,trivial⟩;simp only[puts,Act.put,dK,dL,dM] at ha;subst ha;clear hS hF;have eP:=hB;clear hB;go_upto_region 2 with(fail)
  refine aX (n:=17) aS aS aS rfl
   (fun ii vv _=>(match ii with | 0 | 3=>vv=.int .u64 (x) | 1 | 4=>vv=.int .u64 (((64 - a:Nat):Int)) | 2=>vv=.int .u64 (x * 2 ^ (64 - a) % eF) | 5=>vv=.int .u64 ((a:Int)) | 6=>vv=.int .u64 (x / 2 ^ a) | 7 | 8=>vv=.int .u64 (rr x a) | _=>True))
   (fun w w'=>Below w.heap.size w w') (fun _ _ h=>h) (fun _ _ _ _ h _=>h) ?_ ?_
  ·refine cB ?_;refine⟨?_,?_,?_,?_,?_,?_,?_,?_,?_,trivial⟩
   ·intro a w2 hB hF hd;exact aO <| aB _ (.inl rfl) aR (hF.same 0 rfl)
   ·intro a w2 hB hF hd;exact aO <| aB _ (.inl rfl) aR (hF.same 5 rfl)
   ·intro a w2 hB hF hd;exact aO <| aT (Go.bC.XY rfl (hd 0 _ rfl (aj rfl)) (hd 1 _ rfl (aj rfl)) aH) (congrArg (Value.int .u64) (aeT aH))
   ·intro a w2 hB hF hd;exact aO <| aB _ (.inl rfl) aR (hF.same 0 rfl)
   ·intro a w2 hB hF hd;exact aO <| aB _ (.inl rfl) aR (hF.same 5 rfl)
   ·intro a w2 hB hF hd;exact aO <| aT (Go.bC.kS rfl rfl (hd 4 _ rfl (aj rfl))) (congrArg (Value.int .u64) (Lp (by have:=HA.out;omega)))
   ·intro a w2 hB hF hd;exact aO <| aT (Go.bC.qI rfl (hd 3 _ rfl (aj rfl)) (hd 5 _ rfl (aj rfl)) aH) (congrArg (Value.int .u64) (Te (by have:=HA.out;omega)))
   ·intro a w2 hB hF hd;exact aO <| aT (Go.bC.Gj rfl (hd 2 _ rfl (aj rfl)) (hd 6 _ rfl (aj rfl))) (congrArg (Value.int .u64) (aeV HX.out.1 HX.out.2 (by have:=HA.out;omega)))
   ·intro a w2 hB hF hd;exact aO <| aB _ (.inr rfl) aR (hd 7 _ rfl (aj rfl))
  ·intro a w3 hB hF hS;have ha:=aP rfl rfl hF [_,_,_,_,_,_,_,_,_] rfl ⟨hS 0 _ rfl,hS 1 _ rfl,hS 2 _ rfl,hS 3 _ rfl,hS 4 _ rfl,hS 5 _ rfl,hS 6 _ rfl,hS 7 _ rfl,hS 8 _ rfl,trivial⟩;simp only[puts,Act.put,dK,dL,dM] at ha;subst ha;clear hS hF;have hb:=eP.trans (hB.mono eP.size);go_wp2;go_ret;exact⟨rfl,hb⟩
theorem Ee (x:Int) (a b c:Nat) (ha:1<=a/\a<=63) (hb:1<=b/\b<=63) (hc:1<=c/\c<=63) (h0:0<=x/\x<eF) (p q r:Int) (hp:p=a) (hq:q=b) (hr:r=c) (w:World):
  Calls Tryz.prog 242 #[.int .u64 x,.int .i64 p,.int .i64 q,.int .i64 r] w fun e w'=>e=.returned (.int .u64 (x64 (x64 (rr x a) (rr x b)) (rr x c)))/\Below w.heap.size w w':=by
 have HX:=ak h0;have HP:=ak hp;have HQ:=ak hq;have HR:=ak hr;clear hp hq hr h0;have p1: -9223372036854775808<= -p/\ -p<=9223372036854775807:=by have:=HP.out;omega
 have q1: -9223372036854775808<= -q/\ -q<=9223372036854775807:=by have:=HQ.out;omega
 have r1: -9223372036854775808<= -r/\ -r<=9223372036854775807:=by have:=HR.out;omega
 obtain⟨p1,p2⟩:=p1;obtain⟨q1,q2⟩:=q1;obtain⟨r1,r2⟩:=r1
 go_enter Tryz.func242,Tryz.ntmps242
 go_wp2_with fail;refine(nW x a ha HX.out _ (by rw[HP.out]) _).mono ?_;rintro e w1 ⟨rfl,h1⟩;go_wp2_with fail;refine(nW x b hb HX.out _ (by rw[HQ.out]) _).mono ?_;rintro e w2 ⟨rfl,h2⟩;go_wp2_with fail;refine(nW x c hc HX.out _ (by rw[HR.out]) _).mono ?_;rintro e w3 ⟨rfl,h3⟩;have hb:=(h1.trans (h2.mono h1.size)).trans (h3.mono (h1.trans (h2.mono h1.size)).size);clear h1 h2 h3;go_wp2;go_ret;exact⟨rfl,hb⟩
theorem jX (x:Int) (n:Nat) (h0:0<=x/\x<eF) (hn:1<=n/\n<=63) (k:Int) (hk:k=n) (w:World):
  Calls Tryz.prog 87 #[.int .u64 x,.int .i64 k] w fun e w'=>e=.returned (.int .u64 (rr x n))/\Below w.heap.size w w':=by
 subst hk;have HX:=ak h0;have HN:=ak hn;obtain⟨n1,n2⟩:=hn;clear h0
 go_enter Tryz.func87,Tryz.ntmps87
 go_wp2
 go_loopw [5,6] (fun s i wr=> ∃(j:Nat) (p:Int),j<=n/\Hid (p=2 ^ j)/\0<p/\p<=9223372036854775807+1/\s=.int .u64 p/\i=.int .i64 j/\Below w.heap.size w wr) (fun _ i _=>n - (intOf i).toNat)
 case atStart=>exact⟨0,1,gX _,rfl,by decide,by decide,rfl,rfl,bT _ _⟩
 case round=>
  obtain⟨j,p,hj,hp,p0,p1,rfl,rfl,aA⟩:=hrel;by_cases hlt:j<n
  ·have hpp:Hid (p * 2=2 ^ (j+1)):=by unfold Hid;rw[hp.out,Int.pow_succ]
   have hpb:p * 2<=9223372036854775807+1:=by
    rw[hpp.out];exact Int.le_trans (jg 2 aN (j+1) 63 aH) aN
   go_wp2;go_roundw
   case rel=>exact⟨j+1,_,by omega,hpp,by omega,by omega,rfl,by go_num,aA⟩
   case measure=>simp[intOf] <;> omega
  ·obtain rfl:j=n:=by omega
   obtain⟨q,hq⟩:∃q,q=9223372036854775808 / p:=⟨_,rfl⟩
   have HT:=ak (LA HX.out.1 HX.out.2 HN.out hp.out hq);have HQ:Hid (IntKind.u64.wrap (Int.tdiv 9223372036854775808 p)=q):=UL (by rw[Pg aN,hq]) HT.out.2.1 (by have:=HT.out.2.2.1;unfold eF;omega);have HD:Hid (IntKind.u64.wrap (Int.tdiv x p)=x / p):=UL (Pg HX.out.1) HT.out.2.2.2.2.2.2.2.2.2.1 HT.out.2.2.2.2.2.2.2.2.2.2.1;have HM:Hid (Int.tmod x p=x % p):=Int.tmod_eq_emod_of_nonneg HX.out.1;obtain⟨y,hy⟩:∃y,y=x / p:=⟨_,rfl⟩
   obtain⟨z,hz⟩:∃z,z=x % p:=⟨_,rfl⟩
   rw[<-hy] at HD HT;rw[<-hz] at HM HT;have hp0:p≠0:=by omega
   clear hq hy hz hlt p1;go_upto_region 6 with(fail)
   refine aX (n:=25) aS aS aS rfl
    (fun ii vv _=>(match ii with | 0 | 3=>vv=.int .u64 (x) | 1 | 4 | 6=>vv=.int .u64 (p) | 2=>vv=.int .u64 (y) | 5=>vv=.int .u64 (z) | 7=>vv=.int .u64 (q) | 8=>vv=.int .u64 (q * 2) | 9=>vv=.int .u64 (z * (q * 2)) | 10 | 11=>vv=.int .u64 (rr x j) | _=>True))
    (fun w w'=>Below w.heap.size w w') (fun _ _ h=>h) (fun _ _ _ _ h _=>h) ?_ ?_
   ·refine cB ?_;refine⟨?_,?_,?_,?_,?_,?_,?_,?_,?_,?_,?_,?_,trivial⟩
    ·intro a w2 hB hF hd;exact aO <| aB _ (.inl rfl) aR (hF.same 0 rfl)
    ·intro a w2 hB hF hd;exact aO <| aB _ (.inl rfl) aR (hF.same 5 rfl)
    ·intro a w2 hB hF hd;exact aO <| aT (Go.bC.qJ rfl (hd 0 _ rfl (aj rfl)) (hd 1 _ rfl (aj rfl)) hp0) (congrArg (Value.int .u64) HD.out)
    ·intro a w2 hB hF hd;exact aO <| aB _ (.inl rfl) aR (hF.same 0 rfl)
    ·intro a w2 hB hF hd;exact aO <| aB _ (.inl rfl) aR (hF.same 5 rfl)
    ·intro a w2 hB hF hd;exact aO <| aT (Go.bC.vZ rfl (hd 3 _ rfl (aj rfl)) (hd 4 _ rfl (aj rfl)) hp0) (congrArg (Value.int .u64) HM.out)
    ·intro a w2 hB hF hd;exact aO <| aB _ (.inl rfl) aR (hF.same 5 rfl)
    ·intro a w2 hB hF hd;exact aO <| aT (Go.bC.qJ rfl rfl (hd 6 _ rfl (aj rfl)) hp0) (congrArg (Value.int .u64) HQ.out)
    ·intro a w2 hB hF hd;exact aO <| aT (Go.bC.zV rfl (hd 7 _ rfl (aj rfl)) rfl) (congrArg (Value.int .u64) (UL rfl (by have:=HT.out.2.1;omega) (by have:=HT.out.2.2.1;unfold eF;omega)))
    ·intro a w2 hB hF hd;exact aO <| aT (Go.bC.zV rfl (hd 5 _ rfl (aj rfl)) (hd 8 _ rfl (aj rfl))) (congrArg (Value.int .u64) (UL rfl HT.out.2.2.2.2.1 HT.out.2.2.2.2.2.1))
    ·intro a w2 hB hF hd;exact aO <| aT (Go.bC.dV rfl (hd 2 _ rfl (aj rfl)) (hd 9 _ rfl (aj rfl))) (congrArg (Value.int .u64) (UL HT.out.2.2.2.2.2.2.1 HT.out.2.2.2.2.2.2.2.1 HT.out.2.2.2.2.2.2.2.2.1))
    ·intro a w2 hB hF hd;exact aO <| aB _ (.inr rfl) aR (hd 10 _ rfl (aj rfl))
   ·intro a w2 hB hF hS;have ha:=aP rfl rfl hF [_,_,_,_,_,_,_,_,_,_,_,_] rfl ⟨hS 0 _ rfl,hS 1 _ rfl,hS 2 _ rfl,hS 3 _ rfl,hS 4 _ rfl,hS 5 _ rfl,hS 6 _ rfl,hS 7 _ rfl,hS 8 _ rfl,hS 9 _ rfl,hS 10 _ rfl,hS 11 _ rfl,trivial⟩;simp only[puts,Act.put,dK,dL,dM] at ha;subst ha;clear hS hF;have hb:=aA.trans (hB.mono aA.size);go_wp2;go_ret;exact⟨rfl,hb⟩
theorem Eu (x:Int) (n:Nat) (h0:0<=x/\x<eF) (hn:n<=63) (k:Int) (hk:k=n) (w:World):
  Calls Tryz.prog 88 #[.int .u64 x,.int .i64 k] w fun e w'=>e=.returned (.int .u64 (x / 2 ^ n))/\Below w.heap.size w w':=by
 subst hk;have HX:=ak h0;clear h0
 go_enter Tryz.func88,Tryz.ntmps88
 go_wp2
 go_loopw [0,5] (fun s i wr=> ∃(j:Nat) (p:Int),j<=n/\Hid (p=x / 2 ^ j)/\0<=p/\s=.int .u64 p/\i=.int .i64 j/\Below w.heap.size w wr) (fun _ i _=>n - (intOf i).toNat)
 case atStart=>exact⟨0,x,gX _,by unfold Hid;simp,HX.out.1,rfl,rfl,bT _ _⟩
 case round=>
  obtain⟨j,p,hj,hp,p0,rfl,rfl,aA⟩:=hrel;by_cases hlt:j<n
  ·have hpp:Hid (p / 2=x / 2 ^ (j+1)):=by unfold Hid;rw[hp.out,Int.pow_succ,Int.ediv_ediv_of_nonneg (vF (Int.pow_pos aN))]
   have p1:p<=x:=by rw[hp.out];exact Int.ediv_le_self _ HX.out.1
   have hx2:x<18446744073709551615+1:=HX.out.2;have ht:p.tdiv 2=p / 2:=Pg p0;go_wp2;go_roundw
   case rel=>exact⟨j+1,_,by omega,hpp,by omega,rfl,by go_num,aA⟩
   case measure=>simp[intOf] <;> omega
  ·obtain rfl:j=n:=by omega
   go_wp2;go_ret;exact⟨Yb hp.out,aA⟩
end Go.Proofs.YtpcjekgfnfjbpaaGreat
