/- Part 51 of SuiteBytes; conditions: in each theorem. -/
import Derived.Test.YtpcjekgfnfjbpaaGreatPkSuiteBytes38
import Derived.Test.YtpcjekgfnfjbpaaGreatPkSuiteBytes46
import Derived.Test.YtpcjekgfnfjbpaaGreatPkSuiteBytes47
import Derived.Test.YtpcjekgfnfjbpaaGreatPkSuiteBytes50
set_option linter.unusedVariables false
set_option linter.unusedSimpArgs false
set_option maxRecDepth 100000
set_option maxHeartbeats 1600000
namespace Go.bC
open Go.RowKit
theorem Yu:∀i,i<32->upd (fun _=>0) 0 9 i=dg 256 9 i:=by
 have key:∀i:Fin 32,upd (fun _=>0) 0 9 i.val=dg 256 9 i.val:=by decide+kernel
 exact fun i h=>key ⟨i,h⟩
end Go.bC
namespace Go.Proofs.YtpcjekgfnfjbpaaGreat
open Go.RowKit Go.bC Go.ChangeShapes
attribute [local go_sem ↓] Go.wp_at_zero Go.wp_at_succ
theorem Ma (w:World):Calls Tryz.prog 69 #[] w fun e w'=>e=.returned (.agg (arr .u8 32 (dg 256 9)))/\Below w.heap.size w w':=by
 go_enter Tryz.func69,Tryz.ntmps69
 go_upto_region 2 with(fail);refine aJ (fun w1=>aQ .u8 w1 w.heap.size 32 (fun _=>0)/\aQ .u8 w1 (w.heap.size+1) 32 (fun _=>0)/\Below w.heap.size w w1) ⟨.alloc (bU rfl (by rfl)) _,bU (by first | omega | (simp<;> omega)) (by rfl),((bT _ _).alloc (bB _) _).alloc (by first | omega | (simp<;> omega)) _⟩ ?_;rintro w1 ⟨h0,h1,aA⟩;have e0:=h1.cell 0 aN;have f0:=h1.free 0;go_upto_region 3 with(fail);refine aJ (fun w2=>aQ .u8 w2 w.heap.size 32 (fun _=>0)/\aQ .u8 w2 (w.heap.size+1) 32 (dg 256 9)/\Below w.heap.size w w2) ⟨aQ.other (p:=⟨w.heap.size+1,0,none⟩) h0 (show w.heap.size≠w.heap.size+1 by omega) _,(h1.set 0 9).congr Yu,aA.setCell (p:=⟨w.heap.size+1,0,none⟩) (show w.heap.size<=w.heap.size+1 by omega) _⟩ ?_;clear h0 h1 aA e0 f0;rintro w2 ⟨h0,h1,aA⟩
 try simp only[Act.put,dK,dL,dM]
 go_wp2_with (first
  | (refine bq rfl 22 _ rfl .u8 (w.heap.size+1) 32 (dg 256 9) 5 dY dh rfl h1 ?_)
  | (refine aM rfl 22 _ _ rfl .u8 w.heap.size 32 (fun _=>0) (dg 256 9) dh rfl rfl h0 ?_))
 exact bodyPost_ret (bg rfl _ _ .u8 w.heap.size 32 _ 5 rfl (h0.setRow _ _) dY dh) rfl ⟨rfl,aC aA (bB _) _⟩
theorem Gi (S:Int) (w:World):Calls Tryz.prog 15 #[.agg (arr .u8 32 (dg 256 S))] w fun e w'=>e=.returned (.agg (arr .u8 32 (dg 256 (mulN S 9))))/\Below w.heap.size w w':=by
 have HML:=ak (fun w=>Qh S 9 w);have HBA:=ak (fun w=>Ma w);obtain⟨M,hM⟩:∃x,x=mulN S 9:=⟨_,rfl⟩
 rw[show yB (gV S) (9 % 2 ^ 255) % Pr=M from hM.symm] at HML;rw[<-hM];clear hM;obtain⟨D9,hD⟩:∃x,x=dg 256 9:=⟨_,rfl⟩
 rw[<-hD] at HML HBA;clear hD
 go_enter Tryz.func15,Tryz.ntmps15
 go_upto_region 1 with(fail);refine aJ (fun w1=>aQ .u8 w1 w.heap.size 32 (dg 256 S)/\aQ .u8 w1 (w.heap.size+1) 32 (fun _=>0)/\Below w.heap.size w w1) ⟨.alloc (bU rfl rfl) _,bU (by first | omega | (simp<;> omega)) (by rfl),((bT _ _).alloc (bB _) _).alloc (by first | omega | (simp<;> omega)) _⟩ ?_;rintro w1 ⟨h1,h2,aA⟩
 refine fT (n:=6) 3 rfl aN aS aS aS aS rfl
  (fun ii vv _=>(match ii with | 0=>vv=.agg (arr .u8 32 (dg 256 S)) | 1=>vv=.agg (arr .u8 32 (D9)) | 2=>vv=.agg (arr .u8 32 (dg 256 M)) | _=>True))
  (fun w w'=>Below w.heap.size w w') (fun _ _ h=>h) (fun _ _ _ _ h _=>h) rfl ?_ ?_
 ·refine cB ?_;refine⟨?_,?_,?_,(fun h=>absurd rfl h),trivial⟩
  ·intro _ a w2 hB hF hd;exact aO <| aT (aF rfl dY rfl dh (hF.same 1 rfl) (h1.below hB h1.lt)) rfl
  ·intro _ a w2 hB hF hd;refine aO <| aD _ _ _ rfl Tryz.call69 _ mZ aR ((HBA.out w2).mono ?_);rintro e w3 ⟨rfl,hb⟩;exact⟨_,rfl,rfl,hb⟩
  ·intro _ a w2 hB hF hd;refine aO <| aD _ _ _ rfl Tryz.call68 _ (args2 (hd 0 _ rfl (aj rfl)) (hd 1 _ rfl (aj rfl))) aR ((HML.out w2).mono ?_);rintro e w3 ⟨rfl,hb⟩;exact⟨_,rfl,rfl,hb⟩
 ·intro a w2 hB hF hS;have ha:=aP rfl rfl hF [_,_,_,undef] rfl ⟨hS 0 _ rfl aN,hS 1 _ rfl aN,hS 2 _ rfl aN,trivial,trivial⟩;simp only[puts,Act.put,dK,dL,dM] at ha;subst ha;clear hS hF;replace h2:=h2.kept hB;replace aA:=aA.trans (hB.mono aA.size);clear hB h1;refine bE 22 _ _ rfl .u8 (w.heap.size+1) 32 (fun _=>0) (dg 256 M) dh rfl rfl h2 ?_;go_wp2;exact bodyPost_ret (bg rfl _ _ .u8 (w.heap.size+1) 32 _ 5 rfl (h2.setRow 32 (dg 256 M)) dY dh) rfl ⟨rfl,aC aA aH _⟩
theorem Bb (f:Nat->Int) (hf:∀i,i<32->0<=f i/\f i<256) (N:Nat) (w:World) (hN:N<=w.heap.size):
  Calls Tryz.prog 14 #[.agg (arr .u8 32 f)] w fun e w'=> ∃v,e=.returned v/\Go.bC.Own .u8 5 N w' v 32 f/\Below w.heap.size w w':=by
 refine(jK f hf w).mono ?_;rintro e w' ⟨v,rfl,h,hb⟩;exact⟨v,rfl,Go.bC.Own.mono h aH,hb⟩
end Go.Proofs.YtpcjekgfnfjbpaaGreat
