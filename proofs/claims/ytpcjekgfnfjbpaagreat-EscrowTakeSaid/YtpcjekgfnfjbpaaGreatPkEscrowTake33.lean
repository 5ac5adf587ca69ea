/-
  Part 33 of EscrowTake. Conditions: named in each theorem.
-/
import Derived.Test.YtpcjekgfnfjbpaaGreatPkEscrowTake32
import Derived.LoopIn
import Derived.LoopNIn
import Derived.OwnWalkIn
import Derived.RangeFuncBound
import Derived.RangeFuncCalls
import Derived.RangeFuncFrom
import Derived.RangeFuncLeaves
import Derived.RangeFuncNested
import Derived.Shelf.Abstract
import Derived.Shelf.RegionOpen
import Derived.TacticsInMore
set_option linter.unusedVariables false
set_option linter.unusedSimpArgs false
set_option maxRecDepth 100000
set_option maxHeartbeats 3200000
namespace Go.aZ
open Go.RowKit
def rV (key nonce:Nat->Int) (c:Int) (i:Nat):Int:=qK key nonce (c+(i / 64:Nat)) (i % 64)
def firsts (f:Nat->Int) (k:Nat):List Int:=(List.range k).map f
theorem xu (f:Nat->Int) (k:Nat):firsts f (k+1)=firsts f k++ [f k] :=by simp [firsts,List.range_succ]
@[simp] theorem kU (f:Nat->Int) (k:Nat):(firsts f k).length=k:=by simp [firsts]
def lJ (lo hi:Nat) (W W':World):Prop:=W.heap.size<=W'.heap.size/\∀b,lo<=b->b<hi->W'.heap[b]? =W.heap[b]?
theorem lJ.refl (lo hi:Nat) (W:World):lJ lo hi W W:=⟨bA _,fun _ _ _=> rfl⟩
theorem lJ.trans {lo hi:Nat} {A B C:World} (h:lJ lo hi A B) (k:lJ lo hi B C):lJ lo hi A C:=⟨gQ h.1 k.1,fun b h1 h2=> (k.2 b h1 h2).trans (h.2 b h1 h2)⟩
theorem lJ.XE {lo hi:Nat} {A B:World} (h:Below A.heap.size A B) (hs:hi<=A.heap.size):lJ lo hi A B:=⟨h.size,fun b _ h2=> h.block b (by omega)⟩
theorem XW {lo hi:Nat} {w:World} (hn:hi<=w.heap.size) (W:World) (l:Nat) (o o':Obj) (hl:w.heap.size<=l) (h:W.heap[l]? =some o) (_:o.isCells=false) (_:o.isWalk=false):lJ lo hi W (W.putObj l o'):=
 ⟨(grownBy_putObj' W l o').size,fun b _ h2=> (grownBy_putObj' W l o').block b (by have:=(Array.getElem?_eq_some_iff.1 h).1;omega) (fun e=> by have:=fO e;omega)⟩
theorem aF.Zm {k:IntKind} {lo hi:Nat} {W W':World} {b n:Nat} {f:Nat->Int} (h:aF k W b n f) (hk:lJ lo hi W W') (h1:lo<=b) (h2:b<hi):aF k W' b n f:=by
 obtain ⟨T,h⟩:=h;exact ⟨T,by rw [hk.2 b h1 h2];exact h⟩
end Go.aZ
namespace Go.Proofs.YtpcjekgfnfjbpaaGreat
open Go.RowKit Go.aZ
attribute [local go_sem ↓] Go.wp_at_zero Go.wp_at_succ
theorem Kg (key nonce:Nat->Int) (c:Int) (w:World):
  Calls Tryz.prog 180 #[.agg (arr .u8 32 key),.agg (arr .u8 12 nonce),.int .u32 c] w fun e w'=>
   e=.returned (.func (.func 228) #[] #[.pointer (some ⟨w.heap.size+2,0,none⟩),.pointer (some ⟨w.heap.size,0,none⟩),.pointer (some ⟨w.heap.size+1,0,none⟩)])/\
   aF .u8 w' w.heap.size 32 key/\aF .u8 w' (w.heap.size+1) 12 nonce/\w'.cell? ⟨w.heap.size+2,0,none⟩=some (.int .u32 c)/\Below w.heap.size w w'/\w'.heap.size=w.heap.size+3:=by
 go_enter Tryz.func180,Tryz.ntmps180
 go_wp2;go_ret;refine ⟨rfl,aF.alloc (aF.alloc (bM rfl rfl) _) _,aF.alloc (bM (by simp) rfl) _,?_,(((bN _ _).alloc (bA _) _).alloc (by simp) _).alloc (by simp;omega) _,by simp⟩;have:=cell_of_row (((w.alloc (.cells (arr .u8 32 key) 22)).alloc (.cells (arr .u8 12 nonce) 35)).alloc (.cells #[.int .u32 c] 117)) (w.heap.size+2) 0 #[.int .u32 c] 117 (0,0) (by
  have:=heap_alloc_new ((w.alloc (.cells (arr .u8 32 key) 22)).alloc (.cells (arr .u8 12 nonce) 35)) (.cells #[.int .u32 c] 117)
  simpa using this)
 simpa using this
theorem Dz (n:Nat) (hn:1<=n) (key nonce:Nat->Int) (c:Int) (hk:∀i,i<32->0<=key i/\key i<256) (hno:∀i,i<12->0<=nonce i/\nonce i<256) (hc:0<=c/\c<4294967296)
  (bc bk bn lo hi:Nat) (w:World) (hn0:hi<=w.heap.size) (hb:bc<hi/\bk<hi/\bn<hi) (hl:lo<=bk/\lo<=bn) (h1:w.cell? ⟨bc,0,none⟩=some (.int .u32 c)) (h2:aF .u8 w bk 32 key) (h3:aF .u8 w bn 12 nonce):
  SeqStopsK Fence.wide n Tryz.prog 228 #[.pointer (some ⟨bc,0,none⟩),.pointer (some ⟨bk,0,none⟩),.pointer (some ⟨bn,0,none⟩)] (fun x:Int=> #[Value.int .u8 x]) (lJ lo hi)
   (fun ys=> ys=firsts (rV key nonce c) (64 * (4294967296 - c.toNat))) (fun pre=> ∃k,k<=64 * (4294967296 - c.toNat)/\pre=firsts (rV key nonce c) k) (64 * (4294967296 - c.toNat)) w:=fun l J Jx W hW hJ hJx hY h0=> by
 have HBL:=ak (xE key nonce);refine callsIn_wide.2 ?_;obtain ⟨c0,c1⟩:=hc;have hbc:bc<w.heap.size:=pJ hb.1 hn0;have e1:=(hW.cell (p:=⟨bc,0,none⟩) hbc).trans h1;have hKW:aF .u8 W bk 32 key:=h2.below hW h2.lt;have hNW:aF .u8 W bn 12 nonce:=h3.below hW h3.lt;have HY:=ak hY;have HJ:=ak hJ;have HH0:=ak h0;have HKK:=ak hk;have Mi:=ak hno;have hsW:=hW.size;clear hY hJ hJx h0 hk hno h1 h2 h3 hW
 go_enter Tryz.func228,Tryz.ntmps228
 go_wp2
 go_loopw [5] (fun v wr=> ∃(m:Nat) (q:Int),(m:Int)<=4294967296 - c/\q=c+m/\v=.int .u64 q/\J (firsts (rV key nonce c) (64 * m)) wr/\lJ lo hi W wr) (fun v _=> (4294967296 - intOf v).toNat)
 case atStart=> exact ⟨0,c,by omega,by simp,rfl,HH0.out,lJ.refl _ _ _⟩
 case round=>
  obtain ⟨m,q,hm,hq,rfl,hJs,hnx⟩:=hrel;have HQ:=ak hq;have hq0:0<=q/\q<=4294967296:=by omega
  obtain ⟨q0,q1⟩:=hq0;clear hq;by_cases hlt:q<4294967296
  ·have hK1:aF .u8 wr bk 32 key:=hKW.Zm hnx hl.1 hb.2.1;have hN1:aF .u8 wr bn 12 nonce:=hNW.Zm hnx hl.2 hb.2.2
   go_wp2_with (first
    | (refine aQ rfl 22 _ rfl .u8 bk 32 _ 5 gH eT rfl hK1 ?_)
    | (refine aQ rfl 35 _ rfl .u8 bn 12 _ 5 Tryz.underlying35 Tryz.size35 rfl hN1 ?_))
   refine (HBL.out q HKK.out Mi.out ⟨q0,hlt⟩ _).mono ?_;rintro e w1 ⟨rfl,hb1⟩;have hsr:=hnx.1;have hJ1:J (firsts (rV key nonce c) (64 * m)) w1:=HJ.out _ _ _ none hJs ⟨hb1.os,hb1.tape,hb1.output,hb1.size,fun k hk _=> hb1.block k hk⟩ (fun r e=> by cases e);have hnx1:=hnx.trans (lJ.XE (lo:=lo) (hi:=hi) hb1 (by omega));clear hb1 hJs hnx hK1 hN1;go_wp2
   go_loopw [19] (fun v wq=> ∃i:Nat,i<=64/\v=.int .i64 i/\J (firsts (rV key nonce c) (64 * m+i)) wq/\lJ lo hi W wq) (fun v _=> 64 - (intOf v).toNat)
   case atStart=> exact ⟨0,iY _,rfl,hJ1,hnx1⟩
   case round=>
    clear hJ1 hnx1;obtain ⟨i,hi,rfl,hJs,hnx⟩:=hrel;by_cases hit:i<64
    ·have hx:rV key nonce c (64 * m+i)=qK key nonce q i:=by unfold rV;rw [HQ.out,show (64 * m+i) / 64=m by omega,show (64 * m+i) % 64=i by omega]
     obtain ⟨fn,tmps,assign,body,hy,hR⟩:=HY.out _ (qK key nonce q i) wr hJs (by rw [kU];have:=HQ.out;omega);have hix:=fV (f:=qK key nonce q) Tryz.underlying47 Tryz.underlying5 Tryz.size5 i hit;have HX:=ak hx;clear hx;go_upto_region 6 with (fail);refine (wpIn_wide (n:=n)).1 ?_
     gi_wp2
     refine hR.mono ?_;rintro e W3 (⟨rfl,hJ3,hk3⟩ | ⟨rfl,hJx3⟩)
     ·rw [<-HX.out,←xu] at hJ3
      gi_wp2
      go_wp2;go_roundw
      case rel=> exact ⟨i+1,by omega,by go_num,hJ3,hnx.trans hk3⟩
      case measure=> simp [intOf] <;> omega
     ·rw [<-HX.out,←xu] at hJx3;have hle:64 * m+i+1<=64 * (4294967296 - c.toNat):=by have:=HQ.out;omega
      gi_wp2
      go_wp2;refine bodyPost_ret (results_none rfl _ _ _) rfl ?_;exact ⟨⟨_,rfl⟩,.inr ⟨_,⟨64 * m+i+1,hle,rfl⟩,hJx3⟩⟩
    ·obtain rfl:i=64:=by omega
     go_wp2;go_roundw
     case rel=> exact ⟨m+1,q+1,by have:=HQ.out;omega,by have:=HQ.out;omega,rfl,by rw [show 64 * (m+1)=64 * m+64 by omega];exact hJs,hnx⟩
     case measure=> simp [intOf] <;> omega
  ·obtain rfl:q=4294967296:=by omega
   have hmm:m=4294967296 - c.toNat:=by have:=HQ.out;omega
   go_wp2
   go_end0
   first
    | exact ⟨⟨_,rfl⟩,.inl ⟨_,rfl,by rw [<-hmm];exact hJs⟩⟩
    | exact ⟨⟨_,rfl⟩,.inl (by rw [<-hmm];exact hJs)⟩
end Go.Proofs.YtpcjekgfnfjbpaaGreat
