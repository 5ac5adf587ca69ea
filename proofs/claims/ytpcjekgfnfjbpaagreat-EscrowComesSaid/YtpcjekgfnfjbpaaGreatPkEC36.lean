/- Part 36 of EscrowComes; conditions: in each theorem. -/
import Derived.Test.YtpcjekgfnfjbpaaGreatPkEC11
import Derived.Test.YtpcjekgfnfjbpaaGreatPkEC27
import Derived.Test.YtpcjekgfnfjbpaaGreatPkEC8
import Derived.Deep.Cut
set_option linter.unusedVariables false
set_option linter.unusedSimpArgs false
set_option maxRecDepth 100000
set_option maxHeartbeats 1600000
namespace Go.bI
theorem ZO {a:Nat} (h:1<=a/\a<=63):bits .and .u64 (IntKind.u64.wrap (-(a:Int))) 63=((64 - a:Nat):Int):=by
 have hw:IntKind.u64.wrap (-(a:Int))=18446744073709551616 - (a:Int):=by rw[IntKind.wrap_u64];omega
 rw[hw,u64_and _ _ aH aH aM aM];have:(18446744073709551616 - (a:Int)).toNat=18446744073709551616 - a:=by omega
 rw[this,show (63:Int).toNat=2 ^ 6 - 1 from rfl,Nat.and_two_pow_sub_one_eq_mod]
 congr 1
 omega
theorem ajE {x:Int} {k:Nat} (hk:k<=64):IntKind.u64.wrap (x * 2 ^ (min (Int.toNat (k:Int)) IntKind.u64.bits))=x * 2 ^ k % jX:=by
 rw[IntKind.wrap_u64,MZ,show IntKind.u64.bits=64 from rfl,Nat.min_eq_left hk]
 rfl
theorem WW {x:Int} {k:Nat} (hk:k<=64):Int.fdiv x (2 ^ (min (Int.toNat (k:Int)) IntKind.u64.bits))=x / 2 ^ k:=by
 rw[MZ,show IntKind.u64.bits=64 from rfl,Nat.min_eq_left hk,Int.fdiv_eq_ediv_of_nonneg _ (EM (Int.pow_pos aM))]
theorem lq {a:Int}:IntKind.u64.wrap a=a % jX:=IntKind.wrap_u64 a
theorem Nu {a:Nat} (h:a<=64):IntKind.u64.wrap (64 - ((64 - a:Nat):Int))=(a:Int):=by rw[IntKind.wrap_u64];omega
end Go.bI
namespace Go.Proofs.YtpcjekgfnfjbpaaGreat
open Go.RowKit Go.bI
attribute [local go_sem ↓] Go.wp_at_zero Go.wp_at_succ
theorem oI (x:Int) (a:Nat) (ha:1<=a/\a<=63) (h0:0<=x/\x<jX) (k:Int) (hk:k= -(a:Int)) (w:World):
  Calls Tryz.prog 262 #[.int .u64 x,.int .i64 k] w fun e w'=>e=.returned (.int .u64 (rr x a))/\Below w.heap.size w w':=by
 have HA:=ay ha;have HX:=ay h0;have HC0:=ay (ZO ha);obtain⟨c,hc⟩:∃c,c=IntKind.u64.wrap (-(a:Int)):=⟨_,rfl⟩
 rw[<-hc] at HC0;have HC:Hid (IntKind.u64.wrap k=c):=by rw[hk,hc];exact rfl
 clear ha hk h0 hc
 go_enter Tryz.func262,Tryz.ntmps262
 go_upto_region 1 with(fail)
 refine bC (n:=17) aQ aQ aQ rfl
  (fun ii vv _=>(match ii with | 0=>vv=.int .i64 (k) | 1=>vv=.int .u64 (c) | 2 | 3=>vv=.int .u64 (((64 - a:Nat):Int)) | _=>True))
  (fun w w'=>Below w.heap.size w w') (fun _ _ h=>h) (fun _ _ _ _ h _=>h) ?_ ?_
 ·refine dG ?_;refine⟨?_,?_,?_,?_,trivial⟩
  ·intro a w2 hB hF hd;exact aN <| aG _ (.inl rfl) aR (hF.same 1 rfl)
  ·intro a w2 hB hF hd;exact aN <| aW (sV rfl (hd 0 _ rfl (aj rfl)) Tryz.underlying3 Tryz.underlying212) (congrArg (Value.int .u64) (HC.out))
  ·intro a w2 hB hF hd;exact aN <| aW (Go.bI.nT rfl (hd 1 _ rfl (aj rfl)) rfl) (congrArg (Value.int .u64) (HC0.out))
  ·intro a w2 hB hF hd;exact aN <| aG _ (.inr rfl) aR (hd 2 _ rfl (aj rfl))
 ·intro a w2 hB hF hS;have ha:=aO rfl rfl hF [_,_,_,_] rfl ⟨hS 0 _ rfl,hS 1 _ rfl,hS 2 _ rfl,hS 3 _ rfl,trivial⟩;simp only[puts,Act.put,fB,fD,fF] at ha;subst ha;clear hS hF;have gX:=hB;clear hB;go_upto_region 2 with(fail)
  refine bC (n:=17) aQ aQ aQ rfl
   (fun ii vv _=>(match ii with | 0 | 3=>vv=.int .u64 (x) | 1 | 4=>vv=.int .u64 (((64 - a:Nat):Int)) | 2=>vv=.int .u64 (x * 2 ^ (64 - a) % jX) | 5=>vv=.int .u64 ((a:Int)) | 6=>vv=.int .u64 (x / 2 ^ a) | 7 | 8=>vv=.int .u64 (rr x a) | _=>True))
   (fun w w'=>Below w.heap.size w w') (fun _ _ h=>h) (fun _ _ _ _ h _=>h) ?_ ?_
  ·refine dG ?_;refine⟨?_,?_,?_,?_,?_,?_,?_,?_,?_,trivial⟩
   ·intro a w2 hB hF hd;exact aN <| aG _ (.inl rfl) aR (hF.same 0 rfl)
   ·intro a w2 hB hF hd;exact aN <| aG _ (.inl rfl) aR (hF.same 5 rfl)
   ·intro a w2 hB hF hd;exact aN <| aW (Go.bI.abF rfl (hd 0 _ rfl (aj rfl)) (hd 1 _ rfl (aj rfl)) aH) (congrArg (Value.int .u64) (ajE aH))
   ·intro a w2 hB hF hd;exact aN <| aG _ (.inl rfl) aR (hF.same 0 rfl)
   ·intro a w2 hB hF hd;exact aN <| aG _ (.inl rfl) aR (hF.same 5 rfl)
   ·intro a w2 hB hF hd;exact aN <| aW (Go.bI.uG rfl rfl (hd 4 _ rfl (aj rfl))) (congrArg (Value.int .u64) (Nu (by have:=HA.out;omega)))
   ·intro a w2 hB hF hd;exact aN <| aW (Go.bI.uH rfl (hd 3 _ rfl (aj rfl)) (hd 5 _ rfl (aj rfl)) aH) (congrArg (Value.int .u64) (WW (by have:=HA.out;omega)))
   ·intro a w2 hB hF hd;exact aN <| aW (Go.bI.GV rfl (hd 2 _ rfl (aj rfl)) (hd 6 _ rfl (aj rfl))) (congrArg (Value.int .u64) (ajI HX.out.1 HX.out.2 (by have:=HA.out;omega)))
   ·intro a w2 hB hF hd;exact aN <| aG _ (.inr rfl) aR (hd 7 _ rfl (aj rfl))
  ·intro a w3 hB hF hS;have ha:=aO rfl rfl hF [_,_,_,_,_,_,_,_,_] rfl ⟨hS 0 _ rfl,hS 1 _ rfl,hS 2 _ rfl,hS 3 _ rfl,hS 4 _ rfl,hS 5 _ rfl,hS 6 _ rfl,hS 7 _ rfl,hS 8 _ rfl,trivial⟩;simp only[puts,Act.put,fB,fD,fF] at ha;subst ha;clear hS hF;have hb:=gX.trans (hB.mono gX.size);go_wp2;go_ret;exact⟨rfl,hb⟩
theorem Fb (x:Int) (a b c:Nat) (ha:1<=a/\a<=63) (hb:1<=b/\b<=63) (hc:1<=c/\c<=63) (h0:0<=x/\x<jX) (p q r:Int) (hp:p=a) (hq:q=b) (hr:r=c) (w:World):
  Calls Tryz.prog 242 #[.int .u64 x,.int .i64 p,.int .i64 q,.int .i64 r] w fun e w'=>e=.returned (.int .u64 (x64 (x64 (rr x a) (rr x b)) (rr x c)))/\Below w.heap.size w w':=by
 have HX:=ay h0;have HP:=ay hp;have HQ:=ay hq;have HR:=ay hr;clear hp hq hr h0;have p1: -9223372036854775808<= -p/\ -p<=9223372036854775807:=by have:=HP.out;omega
 have q1: -9223372036854775808<= -q/\ -q<=9223372036854775807:=by have:=HQ.out;omega
 have r1: -9223372036854775808<= -r/\ -r<=9223372036854775807:=by have:=HR.out;omega
 obtain⟨p1,p2⟩:=p1;obtain⟨q1,q2⟩:=q1;obtain⟨r1,r2⟩:=r1
 go_enter Tryz.func242,Tryz.ntmps242
 go_wp2_with fail;refine(oI x a ha HX.out _ (by rw[HP.out]) _).mono ?_;rintro e w1 ⟨rfl,h1⟩;go_wp2_with fail;refine(oI x b hb HX.out _ (by rw[HQ.out]) _).mono ?_;rintro e w2 ⟨rfl,h2⟩;go_wp2_with fail;refine(oI x c hc HX.out _ (by rw[HR.out]) _).mono ?_;rintro e w3 ⟨rfl,h3⟩;have hb:=(h1.trans (h2.mono h1.size)).trans (h3.mono (h1.trans (h2.mono h1.size)).size);clear h1 h2 h3;go_wp2;go_ret;exact⟨rfl,hb⟩
end Go.Proofs.YtpcjekgfnfjbpaaGreat
