/- Part 39 of SuiteBytes; conditions: in each theorem. -/
import Derived.Test.YtpcjekgfnfjbpaaGreatPkSuiteBytes35
import Derived.Test.YtpcjekgfnfjbpaaGreatPkSuiteBytes5
set_option linter.unusedVariables false
set_option linter.unusedSimpArgs false
set_option maxRecDepth 100000
set_option maxHeartbeats 800000
namespace Go.Proofs.YtpcjekgfnfjbpaaGreat
open Go.RowKit Go.bC
attribute [local go_sem ↓] Go.wp_at_zero Go.wp_at_succ
def Q:Int:=7237005577332262213973186563042994240857116359379907606001950938285454250989
theorem Qr:(#[.int .u8 237,.int .u8 211,.int .u8 245,.int .u8 92,.int .u8 26,.int .u8 99,.int .u8 18,.int .u8 88,.int .u8 214,.int .u8 156,.int .u8 247,.int .u8 162,.int .u8 222,.int .u8 249,.int .u8 222,.int .u8 20,.int .u8 0,.int .u8 0,.int .u8 0,.int .u8 0,.int .u8 0,.int .u8 0,.int .u8 0,.int .u8 0,.int .u8 0,.int .u8 0,.int .u8 0,.int .u8 0,.int .u8 0,.int .u8 0,.int .u8 0,.int .u8 16] :Array Value)=arr .u8 32 (dg 256 Q):=by kernel_rfl
theorem ED (w:World):
  Calls Tryz.prog 215 #[] w fun e w'=>e=.returned (.agg (arr .u8 32 (dg 256 Q)))/\Below w.heap.size w w':=by
 go_enter Tryz.func215,Tryz.ntmps215
 go_wp2_with (refine aM rfl 22 _ _ rfl .u8 w.heap.size 32 (fun _=>0) (dg 256 Q) dh rfl (congrArg Value.agg Qr) (bU (by first | omega | (simp<;> omega)) (by rfl)) ?_);refine bodyPost_ret (bg rfl _ _ .u8 w.heap.size 32 _ 5 rfl (aQ.setRow (bU (n:=32) (f:=fun _=>0) (by first | omega | (simp<;> omega)) (by rfl)) _ _) dY dh) rfl ⟨rfl,aC ((bT _ _).alloc (bB _) _) (bB _) _⟩
def once (X:Int):Int:=if Q<=X then X - Q else X
theorem JW (X:Int) (w:World) (hX:0<=X/\X<65536 ^ 17):
  Calls Tryz.prog 264 #[.agg (arr .u32 17 (dg 65536 X))] w fun e w'=>
   e=.returned (.agg (arr .u32 17 (dg 65536 (once X))))/\Below w.heap.size w w':=by
 have HX:=ak hX;clear hX
 go_enter Tryz.func264,Tryz.ntmps264
 go_wp2;refine aJ (fun w1=>aQ .u32 w1 w.heap.size 17 (dg 65536 X)/\aQ .u32 w1 (w.heap.size+1) 17 (fun _=>0)/\Below w.heap.size w w1) ⟨aQ.alloc (bU (by first | omega | (simp<;> omega)) (by rfl)) _,bU (by first | omega | (simp<;> omega)) (by rfl),((bT _ _).alloc (bB _) _).alloc aR _⟩ ?_;rintro w1 ⟨hA,hZ,aA⟩
 refine bG (n:=15) aS aS aS rfl
  (gZ [(8,7)]) (eZ [(8,7)]) (fun _=>arr .u32 17 (fun _=>0)) (fun _=>arr .u32 17 (dg 65536 (X - Q))) (fun _=>251) (fun _=>3)
  (fun i v _=>match i with
   | 0=>v=.agg (arr .u32 17 (dg 65536 X)) | 1=>v=.agg (arr .u8 32 (dg 256 Q)) | 2=>v=.agg (arr .u32 17 (dg 65536 Q))
   | 3 | 4=>v=.tuple #[.agg (arr .u32 17 (dg 65536 (X - Q))),.bool (decide (Q<=X))]
   | 5=>v=.agg (arr .u32 17 (dg 65536 (X - Q))) | 6 | 9=>v=.bool (decide (Q<=X)) | _=>True)
  (fun _ _=>True) (fun _ _ _=>trivial) (fun _ _ _ _ _ _ _=>trivial) (fun _ _ _ _ h _=>h)
  (fJ rfl) (dU rfl) ?_ ?_ ?_ ?_
 ·refine cB ?_;refine⟨?_,?_,?_,?_,?_,?_,?_,?_,?_,?_,trivial⟩
  ·intro _ _ a w2 hB hF hd;exact aO <| aT (Gm rfl DX vI (hF.same 1 rfl) (hA.below hB hA.lt)) rfl
  ·intro _ _ a w2 hB hF hd;refine aO <| aD _ _ _ rfl Tryz.call215 _ mZ aR ((ED w2).mono ?_);rintro e w3 ⟨rfl,hb⟩;exact⟨_,rfl,rfl,hb⟩
  ·intro _ _ a w2 hB hF hd;refine aO <| aD _ _ _ rfl Tryz.call213 _ (args1 (hd 1 _ rfl rfl rfl (aj rfl))) aR ((Bo Q w2 aN).mono ?_);rintro e w3 ⟨rfl,hb⟩;exact⟨_,rfl,rfl,hb⟩
  ·intro _ _ a w2 hB hF hd;refine aO <| aD _ _ _ rfl Tryz.call214 _ (args2 (hd 0 _ rfl rfl rfl (aj rfl)) (hd 2 _ rfl rfl rfl (aj rfl))) aR ((Kg X Q w2 HX.out aN).mono ?_);rintro e w3 ⟨rfl,hb⟩;exact⟨_,rfl,rfl,hb⟩
  ·intro _ _ a w2 hB hF hd;exact aO <| aB _ (.inl rfl) aR (hd 3 _ rfl rfl rfl (aj rfl))
  ·intro _ _ a w2 hB hF hd;exact aO <| aT (fV rfl (hd 4 _ rfl rfl rfl (aj rfl)) rfl) rfl
  ·intro _ _ a w2 hB hF hd;exact aO <| aT (fV rfl (hd 4 _ rfl rfl rfl (aj rfl)) rfl) rfl
  ·exact fun h=>by cases h
  ·exact fun _ h=>by cases h
  ·intro _ _ a w2 hB hF hd;exact aO <| aB _ (.inr rfl) aR (hd 6 _ rfl rfl rfl (aj rfl))
 ·refine cB ?_;refine⟨(fun h=>by cases h),(fun h=>by cases h),(fun h=>by cases h),(fun h=>by cases h),(fun h=>by cases h),(fun h=>by cases h),(fun h=>by cases h),?_,(fun h=>by cases h),(fun h=>by cases h),trivial⟩;exact fun _=>⟨rfl,rfl,fun a w2 K h=>aZ rfl rfl Tryz.zeroValue251 aR h⟩
 ·refine cB ?_;refine⟨(fun _ h=>by cases h),(fun _ h=>by cases h),(fun _ h=>by cases h),(fun _ h=>by cases h),(fun _ h=>by cases h),(fun _ h=>by cases h),(fun _ h=>by cases h),(fun _ h=>by cases h),?_,(fun _ h=>by cases h),trivial⟩;intro p hp;obtain rfl:7=p:=iy hp;exact⟨rfl,rfl,⟨_,rfl⟩,aj rfl,fun a w2 b K hB hF hd hx hb h=>bJ rfl rfl vI hx (hd 5 _ rfl rfl rfl (aj rfl)) hb h⟩
 ·intro a w2 blk hB hF hS hv hfin dw;obtain⟨v1,v2,v3⟩:=hv 7 _ rfl rfl;have ha:=aP rfl rfl hF [_,_,_,_,_,_,_,_,undef,_] rfl ⟨hS 0 _ rfl rfl rfl,hS 1 _ rfl rfl rfl,hS 2 _ rfl rfl rfl,hS 3 _ rfl rfl rfl,hS 4 _ rfl rfl rfl,hS 5 _ rfl rfl rfl,hS 6 _ rfl rfl rfl,v1,trivial,hS 9 _ rfl rfl rfl,trivial⟩;have f8:=hfin 8 _ 7 rfl rfl;simp only[puts,Act.put,dK,dL,dM] at ha;subst ha;have iK:=hA.below hB hA.lt;have gy:=hZ.below hB hZ.lt;have hV:aQ .u32 w2 (blk 7) 17 (dg 65536 (X - Q)):=⟨_,f8⟩
  have hlt:=hZ.lt;have gu:Below w.heap.size w w2:=aA.trans (hB.mono aA.size);clear hS hv hfin dw hF hA hZ v1 f8 hB aA;by_cases hq:Q<=X
  ·have hdq:decide (Q<=X)=true:=by simpa using hq
   have HQ:=ak hq
   go_wp2_with (first
    | (refine bq rfl 251 _ rfl .u32 (blk 7) 17 _ 117 DX vI rfl hV ?_)
    | (refine aM rfl 251 _ _ rfl .u32 (w.heap.size+1) 17 (fun _=>0) _ vI rfl rfl gy ?_))
   refine bodyPost_ret (bg rfl _ _ .u32 (w.heap.size+1) 17 _ 117 rfl (gy.setRow _ _) DX vI) rfl ⟨?_,aC gu aH _⟩;rw[once,if_pos HQ.out]
  ·have hdq:decide (Q<=X)=false:=by simpa using hq
   have HQ:Hid (X<Q):=by unfold Hid;omega
   go_wp2_with (first
    | (refine bq rfl 251 _ rfl .u32 w.heap.size 17 _ 117 DX vI rfl iK ?_)
    | (refine aM rfl 251 _ _ rfl .u32 (w.heap.size+1) 17 (fun _=>0) _ vI rfl rfl gy ?_))
   refine bodyPost_ret (bg rfl _ _ .u32 (w.heap.size+1) 17 _ 117 rfl (gy.setRow _ _) DX vI) rfl ⟨?_,aC gu aH _⟩;rw[once,if_neg (by have:=HQ.out;omega)]
end Go.Proofs.YtpcjekgfnfjbpaaGreat
