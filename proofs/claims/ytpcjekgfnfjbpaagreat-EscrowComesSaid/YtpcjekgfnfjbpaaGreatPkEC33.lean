/- Part 33 of EscrowComes; conditions: in each theorem. -/
import Derived.Test.YtpcjekgfnfjbpaaGreatPkEC32
import Derived.LoopIn
import Derived.LoopNIn
import Derived.OwnWalkIn
import Derived.RangeFuncBound
import Derived.RangeFuncCalls
import Derived.RangeFuncFrom
import Derived.RangeFuncLeaves
import Derived.RangeFuncNested
import Derived.Shelf.Abstract
import Derived.Shelf.RegionOpen
import Derived.TacticsInMore
set_option linter.unusedVariables false
set_option linter.unusedSimpArgs false
set_option maxRecDepth 100000
set_option maxHeartbeats 3200000
namespace Go.bI
open Go.RowKit
def vG (key nonce:Nat->Int) (c:Int) (i:Nat):Int:=uh key nonce (c+(i / 64:Nat)) (i % 64)
def firsts (f:Nat->Int) (k:Nat):List Int:=(List.range k).map f
theorem Ac (f:Nat->Int) (k:Nat):firsts f (k+1)=firsts f k++ [f k] :=by simp[firsts,List.range_succ]
@[simp] theorem mW (f:Nat->Int) (k:Nat):(firsts f k).length=k:=by simp[firsts]
def nP (lo hi:Nat) (W W':World):Prop:=W.heap.size<=W'.heap.size/\∀b,lo<=b->b<hi->W'.heap[b]? =W.heap[b]?
theorem nP.refl (lo hi:Nat) (W:World):nP lo hi W W:=⟨bH _,fun _ _ _=>rfl⟩
theorem nP.trans {lo hi:Nat} {A B C:World} (h:nP lo hi A B) (k:nP lo hi B C):nP lo hi A C:=⟨iw h.1 k.1,fun b h1 h2=>(k.2 b h1 h2).trans (h.2 b h1 h2)⟩
theorem nP.aci {lo hi:Nat} {A B:World} (h:Below A.heap.size A B) (hs:hi<=A.heap.size):nP lo hi A B:=⟨h.size,fun b _ h2=>h.block b aH⟩
theorem acI {lo hi:Nat} {w:World} (hn:hi<=w.heap.size) (W:World) (l:Nat) (o o':Obj) (hl:w.heap.size<=l) (h:W.heap[l]? =some o) (_:o.isCells=false) (_:o.isWalk=false):nP lo hi W (W.putObj l o'):=
 ⟨(grownBy_putObj' W l o').size,fun b _ h2=>(grownBy_putObj' W l o').block b (by have:=(Array.getElem?_eq_some_iff.1 h).1;omega) (fun e=>by have:=gJ e;omega)⟩
theorem aK.aec {k:IntKind} {lo hi:Nat} {W W':World} {b n:Nat} {f:Nat->Int} (h:aK k W b n f) (hk:nP lo hi W W') (h1:lo<=b) (h2:b<hi):aK k W' b n f:=by
 obtain⟨T,h⟩:=h;exact⟨T,by rw[hk.2 b h1 h2];exact h⟩
end Go.bI
namespace Go.Proofs.YtpcjekgfnfjbpaaGreat
open Go.RowKit Go.bI
attribute [local go_sem ↓] Go.wp_at_zero Go.wp_at_succ
theorem NT (key nonce:Nat->Int) (c:Int) (w:World):
  Calls Tryz.prog 180 #[.agg (arr .u8 32 key),.agg (arr .u8 12 nonce),.int .u32 c] w fun e w'=>
   e=.returned (.func (.func 228) #[] #[.pointer (some ⟨w.heap.size+2,0,none⟩),.pointer (some ⟨w.heap.size,0,none⟩),.pointer (some ⟨w.heap.size+1,0,none⟩)])/\
   aK .u8 w' w.heap.size 32 key/\aK .u8 w' (w.heap.size+1) 12 nonce/\w'.cell? ⟨w.heap.size+2,0,none⟩=some (.int .u32 c)/\Below w.heap.size w w'/\w'.heap.size=w.heap.size+3:=by
 go_enter Tryz.func180,Tryz.ntmps180
 go_wp2;go_ret;refine⟨rfl,aK.alloc (aK.alloc (cB rfl rfl) _) _,aK.alloc (cB aR rfl) _,?_,(((bT _ _).alloc (bH _) _).alloc aR _).alloc iU _,by simp⟩;have:=cell_of_row (((w.alloc (.cells (arr .u8 32 key) 22)).alloc (.cells (arr .u8 12 nonce) 35)).alloc (.cells #[.int .u32 c] 117)) (w.heap.size+2) 0 #[.int .u32 c] 117 (0,0) (by
  have:=heap_alloc_new ((w.alloc (.cells (arr .u8 32 key) 22)).alloc (.cells (arr .u8 12 nonce) 35)) (.cells #[.int .u32 c] 117)
  simpa using this)
 simpa using this
theorem GL (n:Nat) (hn:1<=n) (key nonce:Nat->Int) (c:Int) (hk:∀i,i<32->0<=key i/\key i<256) (hno:∀i,i<12->0<=nonce i/\nonce i<256) (hc:0<=c/\c<4294967296)
  (bc bk bn lo hi:Nat) (w:World) (hn0:hi<=w.heap.size) (hb:bc<hi/\bk<hi/\bn<hi) (hl:lo<=bk/\lo<=bn) (h1:w.cell? ⟨bc,0,none⟩=some (.int .u32 c)) (h2:aK .u8 w bk 32 key) (h3:aK .u8 w bn 12 nonce):
  SeqStopsK Fence.wide n Tryz.prog 228 #[.pointer (some ⟨bc,0,none⟩),.pointer (some ⟨bk,0,none⟩),.pointer (some ⟨bn,0,none⟩)] (fun x:Int=> #[Value.int .u8 x]) (nP lo hi)
   (fun ys=>ys=firsts (vG key nonce c) (64 * (4294967296 - c.toNat))) (fun pre=> ∃k,k<=64 * (4294967296 - c.toNat)/\pre=firsts (vG key nonce c) k) (64 * (4294967296 - c.toNat)) w:=fun l J Jx W hW hJ hJx hY h0=>by
 have HBL:=ay (Ai key nonce);refine callsIn_wide.2 ?_;obtain⟨c0,c1⟩:=hc;have hbc:bc<w.heap.size:=qZ hb.1 hn0;have e1:=(hW.cell (p:=⟨bc,0,none⟩) hbc).trans h1;have hKW:aK .u8 W bk 32 key:=h2.below hW h2.lt;have hNW:aK .u8 W bn 12 nonce:=h3.below hW h3.lt;have HY:=ay hY;have HJ:=ay hJ;have HH0:=ay h0;have HKK:=ay hk;have Qs:=ay hno;have hsW:=hW.size;clear hY hJ hJx h0 hk hno h1 h2 h3 hW
 go_enter Tryz.func228,Tryz.ntmps228
 go_wp2
 go_loopw [5] (fun v wr=> ∃(m:Nat) (q:Int),(m:Int)<=4294967296 - c/\q=c+m/\v=.int .u64 q/\J (firsts (vG key nonce c) (64 * m)) wr/\nP lo hi W wr) (fun v _=>(4294967296 - intOf v).toNat)
 case atStart=>exact⟨0,c,by omega,by simp,rfl,HH0.out,nP.refl _ _ _⟩
 case round=>
  obtain⟨m,q,hm,hq,rfl,hJs,hnx⟩:=hrel;have HQ:=ay hq;have hq0:0<=q/\q<=4294967296:=by omega
  obtain⟨q0,q1⟩:=hq0;clear hq;by_cases hlt:q<4294967296
  ·have hK1:aK .u8 wr bk 32 key:=hKW.aec hnx hl.1 hb.2.1;have hN1:aK .u8 wr bn 12 nonce:=hNW.aec hnx hl.2 hb.2.2
   go_wp2_with (first
    | (refine aZ rfl 22 _ rfl .u8 bk 32 _ 5 iL fZ rfl hK1 ?_)
    | (refine aZ rfl 35 _ rfl .u8 bn 12 _ 5 Tryz.underlying35 Tryz.size35 rfl hN1 ?_))
   refine(HBL.out q HKK.out Qs.out ⟨q0,hlt⟩ _).mono ?_;rintro e w1 ⟨rfl,gX⟩;have hsr:=hnx.1;have hJ1:J (firsts (vG key nonce c) (64 * m)) w1:=HJ.out _ _ _ none hJs ⟨gX.os,gX.tape,gX.output,gX.size,fun k hk _=>gX.block k hk⟩ (fun r e=>by cases e);have hnx1:=hnx.trans (nP.aci (lo:=lo) (hi:=hi) gX aH);clear gX hJs hnx hK1 hN1;go_wp2
   go_loopw [19] (fun v wq=> ∃i:Nat,i<=64/\v=.int .i64 i/\J (firsts (vG key nonce c) (64 * m+i)) wq/\nP lo hi W wq) (fun v _=>64 - (intOf v).toNat)
   case atStart=>exact⟨0,jm _,rfl,hJ1,hnx1⟩
   case round=>
    clear hJ1 hnx1;obtain⟨i,hi,rfl,hJs,hnx⟩:=hrel;by_cases hit:i<64
    ·have hx:vG key nonce c (64 * m+i)=uh key nonce q i:=by unfold vG;rw[HQ.out,show (64 * m+i) / 64=m by omega,show (64 * m+i) % 64=i by omega]
     obtain⟨fn,tmps,assign,body,hy,hR⟩:=HY.out _ (uh key nonce q i) wr hJs (by rw[mW];have:=HQ.out;omega);have hix:=iy (f:=uh key nonce q) Tryz.underlying47 Tryz.underlying5 Tryz.size5 i hit;have HX:=ay hx;clear hx;go_upto_region 6 with(fail);refine(wpIn_wide (n:=n)).1 ?_
     gi_wp2
     refine hR.mono ?_;rintro e W3 (⟨rfl,hJ3,hk3⟩ | ⟨rfl,hJx3⟩)
     ·rw[<-HX.out,←Ac] at hJ3
      gi_wp2
      go_wp2;go_roundw
      case rel=>exact⟨i+1,by omega,by go_num,hJ3,hnx.trans hk3⟩
      case measure=>simp[intOf] <;> omega
     ·rw[<-HX.out,←Ac] at hJx3;have hle:64 * m+i+1<=64 * (4294967296 - c.toNat):=by have:=HQ.out;omega
      gi_wp2
      go_wp2;refine bodyPost_ret (results_none rfl _ _ _) rfl ?_;exact⟨⟨_,rfl⟩,.inr ⟨_,⟨64 * m+i+1,hle,rfl⟩,hJx3⟩⟩
    ·obtain rfl:i=64:=by omega
     go_wp2;go_roundw
     case rel=>exact⟨m+1,q+1,by have:=HQ.out;omega,by have:=HQ.out;omega,rfl,by rw[show 64 * (m+1)=64 * m+64 by omega];exact hJs,hnx⟩
     case measure=>simp[intOf] <;> omega
  ·obtain rfl:q=4294967296:=by omega
   have hmm:m=4294967296 - c.toNat:=by have:=HQ.out;omega
   go_wp2
   go_end0
   first
    | exact⟨⟨_,rfl⟩,.inl ⟨_,rfl,by rw[<-hmm];exact hJs⟩⟩
    | exact⟨⟨_,rfl⟩,.inl (by rw[<-hmm];exact hJs)⟩
end Go.Proofs.YtpcjekgfnfjbpaaGreat
