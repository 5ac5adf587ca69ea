/-
  Part 40 of the texts that the proof of BoxUnwraps rests on, one after the other. Conditions: named in each theorem.
-/
import Derived.Test.YtdhejcaapdhhfaaGreatPkBoxUnwraps36
import Derived.Test.YtdhejcaapdhhfaaGreatPkBoxUnwraps35
import Derived.Test.YtdhejcaapdhhfaaGreatPkBoxUnwraps34
import Derived.Test.YtdhejcaapdhhfaaGreatPkBoxUnwraps3
import Derived.Test.YtdhejcaapdhhfaaGreatPkBoxUnwraps7
import Derived.Test.YtdhejcaapdhhfaaGreatPkBoxUnwraps2
import Derived.Test.YtdhejcaapdhhfaaGreatPkBoxUnwraps5
import Derived.Test.YtdhejcaapdhhfaaGreatPkBoxUnwraps4
import Derived.Test.YtdhejcaapdhhfaaGreatPkBoxUnwraps21
import Derived.Test.YtdhejcaapdhhfaaGreatPkBoxUnwraps13
import Derived.Test.YtdhejcaapdhhfaaGreatPkBoxUnwraps10
import Derived.Test.YtdhejcaapdhhfaaGreatPkBoxUnwraps39
import Derived.Test.YtdhejcaapdhhfaaGreatPkBoxUnwraps38
import Derived.Test.YtdhejcaapdhhfaaGreatPkBoxUnwraps37
import Derived.Test.YtdhejcaapdhhfaaGreatPkBoxUnwraps17
import Derived.BigFrame
import Derived.BigQuiet
import Derived.ChangeKeysEq
import Derived.Deep.Cut
import Derived.Deep.DrawnRows
import Derived.Deep.MidRow
import Derived.Deep.QuietTactic
import Derived.Deep.RegionHeld3
import Derived.Deep.RegionLaw
import Derived.Deep.WholeRow
import Derived.Great.BuildSlice
import Derived.Laws.BitsAllLaws
import Derived.Laws.CopyOwn
import Derived.Laws.IdiomCopy
import Derived.Laws.StructEq
import Derived.Lib.Hide
import Derived.LoopIn
import Derived.LoopNIn
import Derived.Maps.AppendAt
import Derived.Maps.Range
import Derived.Orders
import Derived.OrdersIn
import Derived.OwnWalkIn
import Derived.RangeFuncBound
import Derived.RangeFuncBox
import Derived.RangeFuncCalls
import Derived.RangeFuncFrom
import Derived.RangeFuncLeaves
import Derived.RangeFuncNested
import Derived.Shelf.Abstract
import Derived.Shelf.RegionOpen
import Derived.StillTailTactics
import Derived.TacticsInMore
import Derived.Test.YtdhejcaapdhhfaaGreatArr
import Derived.Test.YtdhejcaapdhhfaaGreatFlow
import Derived.Test.YtdhejcaapdhhfaaGreatKit
import Derived.Test.YtdhejcaapdhhfaaGreatRows
import Derived.Test.YtdhejcaapdhhfaaGreatTxt
import Derived.WalkKit
import Derived.WalkLawsBesides
import Derived.WalkSmall
import Derived.WalkSpells
set_option linter.unusedVariables false
set_option linter.unusedSimpArgs false
set_option maxRecDepth 100000
set_option maxHeartbeats 6400000
namespace Go.Bas
theorem xo_comm (a b:Int):xo a b=xo b a:=by
 unfold xo bits
 first
  | simp only [BitVec.xor_comm]
  | (simp [BitVec.xor_comm])
end Go.Bas
namespace Go.Proofs.YtdhejcaapdhhfaaGreat
open Go.RowKit Go.Bas
attribute [local go_sem ↓] Go.wp_at_zero Go.wp_at_succ
theorem rHide_own (key nonce:Nat→Int) (c:Int) (hk:∀i,i<32→0≤key i∧key i<256) (hn:∀i,i<12→0≤nonce i∧nonce i<256) (hc:0≤c∧c<4294967296)
  (v:Value) (n:Nat) (f:Nat→Int) (w:World) (hv:Rd .u8 w v n f) (h1:n≤1048576) (h2:((n+63) / 64:Nat)≤4294967296 - c):
  Calls Tryz.prog 100 #[.agg (arr .u8 32 key),.agg (arr .u8 12 nonce),.int .u32 c,v] w fun e w'=>
   ∃v,e=.returned v∧Go.Bas.Own .u8 5 w.heap.size w' v n (hidB key nonce c f)∧Below w.heap.size w w':=by
 have HBL:=Lib.hid (rBlock_any key nonce)
 have HK:=Lib.hid hk
 have HN:=Lib.hid hn
 obtain ⟨a1,c1,rfl,l1,m1,z1,hc1⟩:=hv
 have HC1:=Lib.hid hc1
 obtain ⟨c0,cc1⟩:=hc
 clear hk hn z1 hc1
 go_enter Tryz.func100,Tryz.ntmps100
 go_wp2
 go_loopw [2,9,10] (fun cnt v a wr=> ∃(m p:Nat) (q:Int),p=64 * m∧p≤n+63∧q=(c+m) % 4294967296∧cnt=.int .u32 q∧a=.int .i64 p∧Bas.Own .u8 5 (w.heap.size+2) wr v (min p n) (hidB key nonce c f)∧Arr .u8 wr w.heap.size 32 key∧Arr .u8 wr (w.heap.size+1) 12 nonce∧Below w.heap.size w wr) (fun _ _ a _=> n+63 - (intOf a).toNat)
 case atStart=> exact ⟨0,0,c,rfl,by omega,by omega,rfl,rfl,by rw [Nat.zero_min];exact Bas.Own.nil _ _ _ _ _,Arr.alloc (Arr.newAt rfl rfl) _,Arr.newAt (by simp) rfl,((Below.refl _ _).alloc (Nat.le_refl _) _).alloc (by simp) _⟩
 case round=>
  obtain ⟨m,p,q,hp,hpn,hq,rfl,rfl,hO,hK,hN,hbel⟩:=hrel
  by_cases hlt:p<n
  ·have hqe:q=c+m:=by omega
   have HQ:=Lib.hid hqe
   have HP:=Lib.hid hp
   have hq0:0≤q∧q<4294967296:=by omega
   rw [show min p n=p by omega] at hO
   have HO:=Lib.hid hO
   have hs:=hbel.size
   clear hq hqe hp hO
   go_wp2_with (first
    | (refine load_arr rfl 22 _ rfl .u8 w.heap.size 32 _ 5 Tryz.underlying22 Tryz.size22 rfl hK ?_)
    | (refine load_arr rfl 74 _ rfl .u8 (w.heap.size+1) 12 _ 5 Tryz.underlying74 Tryz.size74 rfl hN ?_))
   refine (HBL.out q HK.out HN.out hq0 _).mono ?_
   rintro e w2 ⟨sv,rfl,hsv,hb2⟩
   obtain ⟨sg,sc,rfl,g1,g2,g3,g4,gcell,_⟩:=hsv.form (by decide)
   have HSC:=Lib.hid gcell
   have hK2:=hK.kept hb2
   have hN2:=hN.kept hb2
   have hO2:=HO.out.below hb2
   have hap:∀b,u9.ownBlock=some b→b≠sg:=fun b hb=> by have:=(World.ownsRow.lt HO.out b hb).2;omega
   have hbel2:=hbel.trans (hb2.mono hs)
   have hn2l:=hN2.lt
   clear hsv gcell hK hN hbel hb2 HO
   obtain ⟨q0,q1⟩:=hq0
   obtain ⟨W2,hW2⟩:∃W2,W2=w2:=⟨_,rfl⟩
   subst hW2
   go_wp2
   go_loopw [9,12] (fun v i wr=> ∃k:Nat,k≤64∧p+k≤n∧i=.int .i64 k∧Bas.Own .u8 5 (w.heap.size+2) wr v (p+k) (hidB key nonce c f)∧Arr .u8 wr w.heap.size 32 key∧Arr .u8 wr (w.heap.size+1) 12 nonce∧Below w.heap.size w wr∧(∀i,i<64→wr.cell? ⟨sg,i,none⟩=some (.int .u8 (blkB key nonce q i)))∧(∀b,v.ownBlock=some b→b≠sg)) (fun _ i _=> 64 - (intOf i).toNat)
   case atStart=> exact ⟨0,by decide,by omega,rfl,hO2,hK2,hN2,hbel2,HSC.out,hap⟩
   case round=>
    clear hO2 hK2 hN2 hbel2 hap
    obtain ⟨k,hk,hpk,rfl,hO,hK,hN,hbel,hsc,hap⟩:=hrel
    have HSC2:=Lib.hid hsc
    have HAP:=Lib.hid hap
    have HO:=Lib.hid hO
    have hnl:=hN.lt
    clear hsc hap hO
    by_cases hkt:k<64∧p+k<n
    ·obtain ⟨hk1,hk2⟩:=hkt
     obtain ⟨bb,ob,rfl,bl,bcell⟩:=HC1.out (by omega)
     have e1:=(hbel.cell (p:=⟨bb,ob+(p+k),none⟩) bl).trans (bcell (p+k) hk2)
     have e2:=HSC2.out k hk1
     have hsgl:sg<wr.heap.size:=World.block_lt_of_cell? _ _ e2
     have hbbl:bb<wr.heap.size:=Nat.lt_of_lt_of_le bl hbel.size
     have hw1:IntKind.i64.wrap ((p:Int)+(k:Int))=((p+k:Nat):Int):=by rw [wrap_i64_id (by omega) (by omega)];omega
     have hx:xo (f (p+k)) (blkB key nonce q k)=hidB key nonce c f (p+k):=by
      rw [xo_comm];unfold hidB strmB;rw [HQ.out,show (p+k) / 64=m by have:=HP.out;omega,show (p+k) % 64=k by have:=HP.out;omega]
     have HX:=Lib.hid hx
     have hne0:=HO.out.far (show w.heap.size<w.heap.size+2 by omega)
     have hne1:=HO.out.far (show w.heap.size+1<w.heap.size+2 by omega)
     clear bcell hx
     obtain ⟨vs,hvs⟩:∃vs,vs=u9:=⟨_,rfl⟩
     subst hvs
     go_upto_region 9 with (fail)
     refine region_tail (n:=52) 13 (by decide) (by kernel_rfl) (by kernel_rfl) (by kernel_rfl) (by kernel_rfl) rfl
      (fun ii vv ww=> (match ii with | 0=> vv=vs | 1=> vv=.slice (some ⟨bb,ob,none⟩) n c1 | 2=> vv=.int .i64 ((p:Int)) | 3 | 8=> vv=.int .i64 ((k:Int)) | 4=> vv=.int .i64 (((p+k:Nat):Int)) | 5=> vv=.pointer (some ⟨bb,ob+(p+k),none⟩) | 6=> vv=.int .u8 (f (p+k)) | 7=> vv=.slice (some ⟨sg,0,none⟩) 64 sc | 9=> vv=.pointer (some ⟨sg,0+k,none⟩) | 10=> vv=.int .u8 (blkB key nonce q k) | 11=> vv=.int .u8 (bits .xor .u8 (f (p+k)) (blkB key nonce q k)) | _=> True)∧(ii=12→Rd .u8 ww vv 1 (fun _=> bits .xor .u8 (f (p+k)) (blkB key nonce q k))))
      (fun i v w w' h hE=> ⟨h.1,fun e=> Rd.below (h.2 e) hE⟩) ?_ ?_
     ·refine Each.all ?_
      refine ⟨?_,?_,?_,?_,?_,?_,?_,?_,?_,?_,?_,?_,?_,(fun h=> absurd h (by decide)),(fun h=> absurd h (by decide)),trivial⟩
      ·intro _ a w2 hB hF hd
       rw [if_pos (wanted_none rfl)]
       exact flow_move _ (.inl rfl) (by simp) ⟨(hF.same 9 rfl),fun h=> absurd h (by decide)⟩
      ·intro _ a w2 hB hF hd
       rw [if_pos (wanted_none rfl)]
       exact flow_move _ (.inl rfl) (by simp) ⟨(hF.same 3 rfl),fun h=> absurd h (by decide)⟩
      ·intro _ a w2 hB hF hd
       rw [if_pos (wanted_none rfl)]
       exact flow_move _ (.inl rfl) (by simp) ⟨(hF.same 10 rfl),fun h=> absurd h (by decide)⟩
      ·intro _ a w2 hB hF hd
       rw [if_pos (wanted_none rfl)]
       exact flow_move _ (.inl rfl) (by simp) ⟨(hF.same 12 rfl),fun h=> absurd h (by decide)⟩
      ·intro _ a w2 hB hF hd
       rw [if_pos (wanted_none rfl)]
       exact flow_val (fun h=> by cases h) (Go.Bas.run_add rfl ((hd 2 _ rfl (waits_spec rfl)).1) ((hd 3 _ rfl (waits_spec rfl)).1)) ⟨(congrArg (Value.int .i64) (hw1)),fun h=> absurd h (by decide)⟩
      ·intro _ a w2 hB hF hd
       rw [if_pos (wanted_none rfl)]
       exact flow_val (fun h=> by cases h) (run_index_slice rfl ((hd 1 _ rfl (waits_spec rfl)).1) ((hd 4 _ rfl (waits_spec rfl)).1) Tryz.underlying23 (by kernel_rfl) (by omega) (by omega)) ⟨rfl,fun h=> absurd h (by decide)⟩
      ·intro _ a w2 hB hF hd
       rw [if_pos (wanted_none rfl)]
       exact flow_val (fun h=> by cases h) (run_load_cell rfl ((hd 5 _ rfl (waits_spec rfl)).1) Tryz.underlying5 ((hB.cell (p:=⟨bb,ob+(p+k),none⟩) hbbl).trans e1)) ⟨rfl,fun h=> absurd h (by decide)⟩
      ·intro _ a w2 hB hF hd
       rw [if_pos (wanted_none rfl)]
       exact flow_move _ (.inl rfl) (by simp) ⟨(hF.same 11 rfl),fun h=> absurd h (by decide)⟩
      ·intro _ a w2 hB hF hd
       rw [if_pos (wanted_none rfl)]
       exact flow_move _ (.inl rfl) (by simp) ⟨(hF.same 12 rfl),fun h=> absurd h (by decide)⟩
      ·intro _ a w2 hB hF hd
       rw [if_pos (wanted_none rfl)]
       exact flow_val (fun h=> by cases h) (run_index_slice rfl ((hd 7 _ rfl (waits_spec rfl)).1) ((hd 8 _ rfl (waits_spec rfl)).1) Tryz.underlying23 (by kernel_rfl) (by omega) (by omega)) ⟨rfl,fun h=> absurd h (by decide)⟩
      ·intro _ a w2 hB hF hd
       rw [if_pos (wanted_none rfl)]
       exact flow_val (fun h=> by cases h) (run_load_cell rfl ((hd 9 _ rfl (waits_spec rfl)).1) Tryz.underlying5 ((hB.cell (p:=⟨sg,0+k,none⟩) hsgl).trans (by rw [Nat.zero_add];exact e2))) ⟨rfl,fun h=> absurd h (by decide)⟩
      ·intro _ a w2 hB hF hd
       rw [if_pos (wanted_none rfl)]
       exact flow_val (fun h=> by cases h) (Go.Bas.run_xor rfl ((hd 6 _ rfl (waits_spec rfl)).1) ((hd 10 _ rfl (waits_spec rfl)).1)) ⟨rfl,fun h=> absurd h (by decide)⟩
      ·intro _ a w2 hB hF hd
       rw [if_pos (wanted_none rfl)]
       exact flow_lits 23 5 1 _ [.int .u8 (bits .xor .u8 (f (p+k)) (blkB key nonce q k))] rfl Tryz.underlying23 (by kernel_rfl) (by kernel_rfl) rfl (by decide) (by decide) (by intro v hv;simp only [List.mem_cons,List.not_mem_nil,or_false] at hv;rcases hv with rfl<;> rfl) (by simp only [List.map_toArray,List.map_cons,List.map_nil,show a.eval (Operand.tmp 46)=.int .u8 (bits .xor .u8 (f (p+k)) (blkB key nonce q k)) from ((hd 11 _ rfl (waits_spec rfl)).1)];rfl) (by simp) ⟨trivial,fun _=> (lit1_rd)⟩
     ·intro a w5 hB hF hS
      obtain ⟨x47,hx47⟩:∃x,x=a.tmps.getD 47 undef:=⟨_,rfl⟩
      have P47:Rd .u8 w5 x47 1 (fun _=> bits .xor .u8 (f (p+k)) (blkB key nonce q k)):=by rw [hx47];exact (hS 12 _ rfl (by decide)).2 rfl
      have ha:=puts_each rfl rfl hF [_,_,_,_,_,_,_,_,_,_,_,_,x47] rfl ⟨(hS 0 _ rfl (by decide)).1,(hS 1 _ rfl (by decide)).1,(hS 2 _ rfl (by decide)).1,(hS 3 _ rfl (by decide)).1,(hS 4 _ rfl (by decide)).1,(hS 5 _ rfl (by decide)).1,(hS 6 _ rfl (by decide)).1,(hS 7 _ rfl (by decide)).1,(hS 8 _ rfl (by decide)).1,(hS 9 _ rfl (by decide)).1,(hS 10 _ rfl (by decide)).1,(hS 11 _ rfl (by decide)).1,hx47.symm,trivial⟩
      simp only [puts,List.take_succ_cons,List.take_zero,Act.put,List.setIfInBounds_toArray,List.set_cons_succ,List.set_cons_zero] at ha
      subst ha
      change tl _ _ _ (_::_:: []) _ _
      clear hx47
      clear hS hF
      have hbel5:=hbel.trans (hB.mono hbel.size)
      have hO5:=HO.out.below hB
      have hs5:=hB.size
      refine tl_step rfl (wp_append_rd2 _ _ 23 rfl (w.heap.size+2) 5 .u8 1 Tryz.underlying23 Tryz.info5 _ (p+k) (hidB key nonce c f) hO5 rfl _ 1 _ P47 rfl (one_at2 (by rw [←HX.out];rfl)) (by omega) (by omega) (by omega) ?_)
      intro v' w6 hown hgrow hpl
      refine tl_move rfl _ (.inr rfl) (tl_nil ?_)
      have hK6:=(hK.kept hB).grown hgrow hne0
      have hN6:=(hN.kept hB).grown hgrow hne1
      have hb6:=below_grown hbel5 hgrow hO5 hbel5.size (by omega)
      have hsc6:∀i,i<64→w6.cell? ⟨sg,i,none⟩=some (.int .u8 (blkB key nonce q i)):=fun i hi=>
       (World.cell?_of_block (hgrow.block sg (by omega) (fun e=> HAP.out sg e.symm rfl))).trans ((hB.cell (p:=⟨sg,i,none⟩) hsgl).trans (HSC2.out i hi))
      have hap6:∀b,v'.ownBlock=some b→b≠sg:=fun b hb=> by
       rcases hpl with h | h
       ·exact HAP.out b (by rw [←h];exact hb)
       ·have:=h b hb;omega
      clear hK hN hbel hB hgrow hpl e1 e2
      go_wp2
      go_roundw
      case rel=> exact ⟨k+1,by omega,by omega,by go_num,hown,hK6,hN6,hb6,hsc6,hap6⟩
      case measure=> simp [intOf] <;> omega
    ·have hdone:min (p+64) n=p+k:=by omega
     have hfin:Bas.Own .u8 5 (w.heap.size+2) wr u9 (min (p+64) n) (hidB key nonce c f):=by rw [hdone];exact HO.out
     have HF:=Lib.hid hfin
     have hc3:(k:Int)<64→¬ ((p:Int)+k<n):=by omega
     have HQ':Hid ((q+1) % 4294967296=(c+((m+1:Nat):Int)) % 4294967296):=by unfold Hid;rw [HQ.out];congr 1;omega
     have HP':Hid (p+64=64 * (m+1)):=by unfold Hid;have:=HP.out;omega
     clear hfin
     rcases (by omega:k=64∨(k<64∧p+k=n)) with rfl | ⟨hk1,hk2⟩
     ·clear hkt hc3
      go_wp2
      go_roundw
      case rel=> exact ⟨m+1,p+64,_,HP'.out,by omega,HQ'.out,rfl,by go_num,HF.out,hK,hN,hbel⟩
      case measure=> simp [intOf] <;> omega
     ·clear hkt hc3
      subst hk2
      go_wp2
      go_roundw
      case rel=> exact ⟨m+1,p+64,_,HP'.out,by omega,HQ'.out,rfl,by go_num,HF.out,hK,hN,hbel⟩
      case measure=> simp [intOf] <;> omega
  ·rw [show min p n=n by omega] at hO
   have HO:=Lib.hid hO
   clear hO
   go_wp2
   go_ret
   exact ⟨_,rfl,HO.out.mono (by omega),hbel⟩
theorem rHide_any (key nonce:Nat→Int) (c:Int) (hk:∀i,i<32→0≤key i∧key i<256) (hn:∀i,i<12→0≤nonce i∧nonce i<256) (hc:0≤c∧c<4294967296)
  (v:Value) (n:Nat) (f:Nat→Int) (w:World) (hv:Rd .u8 w v n f) (h1:n≤1048576) (h2:((n+63) / 64:Nat)≤4294967296 - c):
  Calls Tryz.prog 100 #[.agg (arr .u8 32 key),.agg (arr .u8 12 nonce),.int .u32 c,v] w fun e w'=>
   ∃v,e=.returned v∧Rd .u8 w' v n (hidB key nonce c f)∧Below w.heap.size w w':=
 (rHide_own key nonce c hk hn hc v n f w hv h1 h2).mono fun _ _ ⟨v,h1,h2,h3⟩=> ⟨v,h1,h2.rd,h3⟩
end Go.Proofs.YtdhejcaapdhhfaaGreat
