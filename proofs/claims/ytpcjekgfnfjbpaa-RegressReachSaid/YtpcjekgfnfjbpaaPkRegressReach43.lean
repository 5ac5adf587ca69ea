/-
  Part 43 of the texts that the proof of RegressReach rests on, one after the other. Conditions: named in each theorem.
-/
import Derived.Test.YtpcjekgfnfjbpaaPkRegressReach37
import Derived.Test.YtpcjekgfnfjbpaaPkRegressReach36
import Derived.Test.YtpcjekgfnfjbpaaPkRegressReach35
import Derived.Test.YtpcjekgfnfjbpaaPkRegressReach34
import Derived.Test.YtpcjekgfnfjbpaaPkRegressReach2
import Derived.Test.YtpcjekgfnfjbpaaPkRegressReach3
import Derived.Test.YtpcjekgfnfjbpaaPkRegressReach8
import Derived.Test.YtpcjekgfnfjbpaaPkRegressReach9
import Derived.Test.YtpcjekgfnfjbpaaPkRegressReach26
import Derived.Test.YtpcjekgfnfjbpaaPkRegressReach15
import Derived.Test.YtpcjekgfnfjbpaaPkRegressReach21
import Derived.Test.YtpcjekgfnfjbpaaPkRegressReach38
import Derived.Test.YtpcjekgfnfjbpaaPkRegressReach39
import Derived.Test.YtpcjekgfnfjbpaaPkRegressReach23
import Derived.Test.YtpcjekgfnfjbpaaPkRegressReach42
import Derived.Test.YtpcjekgfnfjbpaaPkRegressReach41
import Derived.Test.YtpcjekgfnfjbpaaPkRegressReach40
import Derived.Test.YtpcjekgfnfjbpaaPkRegressReach18
import Derived.Test.YtpcjekgfnfjbpaaPkRegressReach27
import Derived.BigFrame
import Derived.BigQuiet
import Derived.ChangeKeysEq
import Derived.ChangeOld
import Derived.Deep.Cut
import Derived.Deep.DrawnRows
import Derived.Deep.MidRow
import Derived.Deep.QuietTactic
import Derived.Deep.RegionHeld3
import Derived.Deep.RegionLaw
import Derived.Deep.WholeRow
import Derived.Great.BuildSlice
import Derived.Laws.BitsAllLaws
import Derived.Laws.CopyOwn
import Derived.Laws.IdiomCopy
import Derived.Laws.StructEq
import Derived.Lib.Hide
import Derived.LoopIn
import Derived.LoopNIn
import Derived.Maps.AppendAt
import Derived.Maps.Range
import Derived.OpenShut
import Derived.Orders
import Derived.OrdersIn
import Derived.OwnWalkIn
import Derived.ProofKit
import Derived.RangeFuncBound
import Derived.RangeFuncBox
import Derived.RangeFuncCalls
import Derived.RangeFuncFrom
import Derived.RangeFuncLeaves
import Derived.RangeFuncNested
import Derived.Shelf.Abstract
import Derived.Shelf.RegionOpen
import Derived.ShutString
import Derived.StillTailTactics
import Derived.TacticsInMore
import Derived.Test.YtpcjekgfnfjbpaaArr
import Derived.Test.YtpcjekgfnfjbpaaFlow
import Derived.Test.YtpcjekgfnfjbpaaKit
import Derived.Test.YtpcjekgfnfjbpaaOpen
import Derived.Test.YtpcjekgfnfjbpaaRows
import Derived.Test.YtpcjekgfnfjbpaaTxt
import Derived.WalkKit
import Derived.WalkLawsBesides
import Derived.WalkSmall
import Derived.WalkSpells
set_option linter.unusedVariables false
set_option linter.unusedSimpArgs false
set_option maxRecDepth 100000
set_option maxHeartbeats 3200000
namespace Go.Bas
open Go.RowKit
def aTag (key nonce:Nat→Int) (nb:Nat) (fb:Nat→Int) (nh:Nat) (fh:Nat→Int):Int:=tagN (sm 256 (blkB key nonce 0) 32) (macF nb fb nh fh) (macN nb nh)
theorem aTag_congr {key nonce:Nat→Int} {nb nh:Nat} {fb fb' fh fh':Nat→Int} (hb:∀i,i<nb→fb i=fb' i) (hh:∀i,i<nh→fh i=fh' i):aTag key nonce nb fb nh fh=aTag key nonce nb fb' nh fh':=by
 unfold aTag tagN
 rw [accN_congr (macF_congr hb hh)]
theorem xor_zero_iff (a b:Nat):a ^^^ b=0 ↔ a=b:=by
 constructor
 ·intro h
  have h2:(a ^^^ b) ^^^ b=0 ^^^ b:=by rw [h]
  rw [Nat.xor_assoc,Nat.xor_self,Nat.xor_zero,Nat.zero_xor] at h2
  exact h2
 ·rintro rfl;exact Nat.xor_self _
theorem or_xor {x a b:Int} (x0:0≤x∧x<256) (a0:0≤a∧a<256) (b0:0≤b∧b<256):(0≤bits .or .u8 x (bits .xor .u8 a b)∧bits .or .u8 x (bits .xor .u8 a b)<256)∧(bits .or .u8 x (bits .xor .u8 a b)=0 ↔ x=0∧a=b):=by
 have h1:(a.toNat ^^^ b.toNat)<256:=Nat.xor_lt_two_pow (n:=8) (by omega) (by omega)
 have h2:(x.toNat ||| (a.toNat ^^^ b.toNat))<256:=Nat.or_lt_two_pow (n:=8) (by omega) h1
 rw [u8_xor a b a0.1 a0.2 b0.1 b0.2,u8_or x _ x0.1 x0.2 (by omega) (by omega),Int.toNat_natCast]
 refine ⟨by omega,?_⟩
 have h3:(x.toNat ||| (a.toNat ^^^ b.toNat))=0 ↔ x.toNat=0∧a.toNat=b.toNat:=by
  rw [Nat.or_eq_zero_iff,xor_zero_iff]
 omega
end Go.Bas
namespace Go.Proofs.Ytpcjekgfnfjbpaa
open Go.RowKit Go.Bas
attribute [local go_sem ↓] Go.wp_at_zero Go.wp_at_succ
theorem aGap_any (n:Nat) (hn:n≤1048576) (w:World):
  Calls Try.prog 67 #[.int .i64 n] w fun e w'=> ∃v,e=.returned v∧Rd .u8 w' v (gp n) (fun _=> 0)∧Below w.heap.size w w':=by
 obtain ⟨G,hG⟩:∃G:Nat,G=gp n:=⟨_,rfl⟩
 have hg:(16 - (n:Int) % 16) % 16=(G:Int):=by rw [hG];unfold gp;omega
 have hl:G<16:=by rw [hG];exact gp_lt n
 rw [←hG]
 have h1:Int.tmod (n:Int) 16=(n:Int) % 16:=Int.tmod_eq_emod_of_nonneg (by omega)
 have h2:Int.tmod (16 - (n:Int) % 16) 16=(G:Int):=by rw [Int.tmod_eq_emod_of_nonneg (by omega)];exact hg
 clear hG
 go_enter Try.func67,Try.ntmps67
 go_wp2_with (refine make_ints rfl _ _ 28 rfl w.heap.size 5 .u8 1 Try.underlying28 Try.info5 .i64 .i64 G rfl rfl (by omega) (by omega) (Nat.le_refl _) ?_;intro w2 hown hgrow)
 go_ret
 exact ⟨_,rfl,hown.rd,below_grown0 (Below.refl _ _) hgrow (Nat.le_refl _)⟩
theorem aSize_any (v:Value) (n:Nat) (f:Nat→Int) (w:World) (hv:Rd .u8 w v n f) (hn:n≤1048576):
  Calls Try.prog 68 #[v] w fun e w'=> ∃v,e=.returned v∧Rd .u8 w' v 8 (num8 n)∧Below w.heap.size w w':=by
 obtain ⟨a1,c1,rfl,l1,m1,z1,h1⟩:=hv
 clear z1 h1
 go_enter Try.func68,Try.ntmps68
 go_wp2_with fail
 refine (low_ok n 8 _ (by decide) (by decide) (by omega) (by omega) (fun h=> absurd h (by decide))).mono ?_
 rintro e w2 ⟨v,rfl,hv,hb⟩
 have HV:=Lib.hid hv.rd
 clear hv
 go_wp2
 go_ret
 exact ⟨_,rfl,HV.out,hb⟩
theorem ret_bl {a b:Bool} (h:a=b):Ending.returned (.bool a)=.returned (.bool b):=by rw [h]
theorem aEqual_any (va vb:Value) (n:Nat) (f g:Nat→Int) (w:World) (ha:Rd .u8 w va n f) (hb:Rd .u8 w vb n g) (hf:∀i,i<n→0≤f i∧f i<256) (hg:∀i,i<n→0≤g i∧g i<256):
  Calls Try.prog 56 #[va,vb] w fun e w'=> e=.returned (.bool (sameB n f g))∧Below w.heap.size w w':=by
 obtain ⟨a1,c1,rfl,l1,m1,z1,h1⟩:=ha
 obtain ⟨a2,c2,rfl,l2,m2,z2,h2⟩:=hb
 have H1:=Lib.hid h1
 have H2:=Lib.hid h2
 have HF:=Lib.hid hf
 have HG:=Lib.hid hg
 clear h1 h2 z1 z2 hf hg
 go_enter Try.func56,Try.ntmps56
 go_wp2
 go_loopw [5,14] (fun d i wr=> ∃(k:Nat) (x:Int),k≤n∧i=.int .i64 k∧d=.int .u8 x∧(0≤x∧x<256)∧(x=0 ↔ ∀j,j<k→f j=g j)∧Below w.heap.size w wr) (fun _ i _=> n - (intOf i).toNat)
 case atStart=> exact ⟨0,0,Nat.zero_le _,rfl,rfl,by decide,by simp,Below.refl _ _⟩
 case round=>
  obtain ⟨k,x,hk,rfl,rfl,hx,hiff,hnx⟩:=hrel
  have HX:=Lib.hid hiff
  clear hiff
  by_cases hlt:k<n
  ·obtain ⟨b1,o1,rfl,s1,e1⟩:=H1.out (by omega)
   obtain ⟨b2,o2,rfl,s2,e2⟩:=H2.out (by omega)
   replace e1:=(hnx.cell s1).trans (e1 k hlt)
   replace e2:=(hnx.cell s2).trans (e2 k hlt)
   have HO:=Lib.hid (or_xor hx (HF.out k hlt) (HG.out k hlt))
   go_wp2
   go_quiet (fail)
   go_wp2
   go_roundw
   case rel=>
    refine ⟨k+1,_,by omega,by go_num,rfl,HO.out.1,?_,below_drewN hnx _⟩
    rw [HO.out.2,HX.out]
    constructor
    ·rintro ⟨q1,q2⟩ j hj
     by_cases e:j=k
     ·rw [e];exact q2
     ·exact q1 j (by omega)
    ·exact fun q=> ⟨fun j hj=> q j (by omega),q k (by omega)⟩
   case measure=> simp [intOf] <;> omega
  ·obtain rfl:k=n:=by omega
   by_cases hx0:x=0
   ·subst hx0
    have HS:Hid (true=sameB k f g):=by unfold Hid;exact (sameB_yes (HX.out.1 rfl)).symm
    go_wp2
    go_ret
    exact ⟨ret_bl HS.out,hnx⟩
   ·have hxb:(x==0)=false:=by simpa using hx0
    have HS:Hid (false=sameB k f g):=by unfold Hid;exact (sameB_no (fun q=> hx0 (HX.out.2 q))).symm
    clear hx0
    go_wp2
    go_ret
    exact ⟨ret_bl HS.out,hnx⟩
end Go.Proofs.Ytpcjekgfnfjbpaa
namespace Go.Bas
open Go.RowKit
theorem Rd.one {k:IntKind} {w:World} {v:Value} {n:Nat} {f:Nat→Int} (h:Rd k w v n f):v.cells=#[v] :=by
 obtain ⟨a,c,rfl,_⟩:=h
 rfl
theorem new6 {w:World} {v0 v1 v2 v3 v4 v5:Value} {nb nh:Nat} {fb fh:Nat→Int} {T:TypeId} (h0:Rd .u8 w v0 nb fb) (h1:Rd .u8 w v1 (gp nb) (fun _=> 0)) (h2:Rd .u8 w v2 nh fh) (h3:Rd .u8 w v3 (gp nh) (fun _=> 0)) (h4:Rd .u8 w v4 8 (num8 nb)) (h5:Rd .u8 w v5 8 (num8 nh)):
  Txt (w.alloc (.cells [v0,v1,v2,v3,v4,v5].toArray T)) (.slice (some ⟨w.heap.size,0,none⟩) 6 6) 6 (lens6 nb nh) (text6 nb fb nh fh):=
 Txt.new (by decide) fun j hj=> by
  rcases (by omega:j=0∨j=1∨j=2∨j=3∨j=4∨j=5) with rfl | rfl | rfl | rfl | rfl | rfl
  ·exact ⟨v0,rfl,h0⟩
  ·exact ⟨v1,rfl,h1⟩
  ·exact ⟨v2,rfl,h2⟩
  ·exact ⟨v3,rfl,h3⟩
  ·exact ⟨v4,rfl,h4⟩
  ·exact ⟨v5,rfl,h5⟩
end Go.Bas
namespace Go.Proofs.Ytpcjekgfnfjbpaa
open Go.RowKit Go.Bas
attribute [local go_sem ↓] Go.wp_at_zero Go.wp_at_succ
theorem aTag_any (key nonce:Nat→Int) (hk:∀i,i<32→0≤key i∧key i<256) (hn:∀i,i<12→0≤nonce i∧nonce i<256) (vb vh:Value) (nb nh:Nat) (fb fh:Nat→Int) (w:World)
  (hb:Rd .u8 w vb nb fb) (hh:Rd .u8 w vh nh fh) (hfb:∀i,i<nb→0≤fb i∧fb i<256) (hfh:∀i,i<nh→0≤fh i∧fh i<256) (l1:nb≤400000) (l2:nh≤400000):
  Calls Try.prog 55 #[.agg (arr .u8 32 key),.agg (arr .u8 12 nonce),vb,vh] w fun e w'=> e=.returned (.agg (arr .u8 16 (dg 256 (aTag key nonce nb fb nh fh))))∧Below w.heap.size w w':=by
 obtain ⟨F,hF⟩:∃F,F=macF nb fb nh fh:=⟨_,rfl⟩
 obtain ⟨N,hN⟩:∃N,N=macN nb nh:=⟨_,rfl⟩
 obtain ⟨K,hK⟩:∃K,K=sm 256 (blkB key nonce 0) 32:=⟨_,rfl⟩
 have HKB:Hid (0≤K∧K<256 ^ 32):=by rw [hK];exact sm_bound (by decide) fun i hi=> blkB_bound _ _ _ _
 have HKD:Hid (∀i,i<32→blkB key nonce 0 i=dg 256 K i):=by rw [hK];exact fun i hi=> (dg_sm (f:=blkB key nonce 0) (by decide) (fun i hi=> blkB_bound _ _ _ _) i hi).symm
 have HTN:Hid (tagN K F N=aTag key nonce nb fb nh fh):=by rw [hK,hF,hN];exact rfl
 have HG:Hid (∀j,j<6→∀i,i<lens6 nb nh j→F (offs (lens6 nb nh) j+i)=text6 nb fb nh fh j i):=by rw [hF];exact fun j hj i hi=> flat_at hj hi
 have HN:Hid (offs (lens6 nb nh) 6=N):=by rw [hN];exact rfl
 have HN2:Hid (N≤1000000):=by have:=macN_eq nb nh;have:=gp_lt nb;have:=gp_lt nh;unfold Hid;omega
 have HF:Hid (∀i,i<N→0≤F i∧F i<256):=by rw [hF,hN];exact macF_bound hfb hfh
 obtain ⟨TN,hTN⟩:∃TN,TN=aTag key nonce nb fb nh fh:=⟨_,rfl⟩
 rw [←hTN] at HTN ⊢
 have HBL:=Lib.hid (chBlock_any key nonce 0 hk hn (by decide))
 have HB:=Lib.hid hb
 have HH:=Lib.hid hh
 obtain ⟨ab,cb,rfl,b1,b2,b3,b4⟩:=hb
 obtain ⟨ah,ch,rfl,h1,h2,h3,h4⟩:=hh
 clear hF hN hK hTN hk hn hfb hfh b3 b4 h3 h4
 go_enter Try.func55,Try.ntmps55
 go_upto_region 1 with (fail)
 refine wp_world (fun w1=> Arr .u8 w1 w.heap.size 32 key∧Arr .u8 w1 (w.heap.size+1) 12 nonce∧Arr .u8 w1 (w.heap.size+2) 16 (fun _=> 0)∧Below w.heap.size w w1∧w1.heap.size=w.heap.size+3)
  ⟨Arr.alloc (Arr.alloc (Arr.newAt rfl rfl) _) _,Arr.alloc (Arr.newAt (by simp) rfl) _,Arr.newAt (by simp) (by rfl),(((Below.refl _ _).alloc (Nat.le_refl _) _).alloc (by simp) _).alloc (by simp;omega) _,by simp⟩ ?_
 rintro w1 ⟨hA,hN,hZ,hbel,hs⟩
 refine region_vars (n:=30) (by kernel_rfl) (by kernel_rfl) (by kernel_rfl) rfl
  (isAl [(4,3)]) (putOf [(4,3)]) (fun _=> arr .u8 64 (fun _=> 0)) (fun _=> (arr .u8 64 (blkB key nonce 0))) (fun _=> 88) (fun _=> 9)
  (fun ii vv _=> (match ii with | 0=> vv=.agg (arr .u8 32 (key)) | 1=> vv=.agg (arr .u8 12 (nonce)) | 2=> vv=.agg (arr .u8 64 (blkB key nonce 0)) | _=> True)) (fun _ _=> True) (fun _ _ _=> trivial) (fun _ _ _ _ _ _ _=> trivial) (fun _ _ _ _ h _=> h)
  (vs_al rfl) (vs_inj rfl) ?_ ?_ ?_ ?_
 ·refine Each.all ?_
  refine ⟨?_,?_,?_,(fun h=> by cases h),(fun _ h=> by cases h),trivial⟩
  ·intro _ _ a w2 hB hF hd
   rw [if_pos (wanted_none rfl)]
   exact flow_val (fun h=> by cases h) (run_load_str rfl Try.underlying22 rfl Try.size22 (hF.same 4 rfl) (hA.below hB hA.lt)) rfl
  ·intro _ _ a w2 hB hF hd
   rw [if_pos (wanted_none rfl)]
   exact flow_val (fun h=> by cases h) (run_load_str rfl Try.underlying85 rfl Try.size85 (hF.same 5 rfl) (hN.below hB hN.lt)) rfl
  ·intro _ _ a w2 hB hF hd
   rw [if_pos (wanted_none rfl)]
   refine flow_call _ _ _ rfl Try.call65 _ (args3 (hd 0 _ rfl rfl rfl (waits_spec rfl)) (hd 1 _ rfl rfl rfl (waits_spec rfl)) rfl) (by simp) ((HBL.out _).mono ?_)
   rintro e w3 ⟨rfl,hb⟩;exact ⟨_,rfl,rfl,hb⟩
 ·refine Each.all ?_
  refine ⟨(fun h=> by cases h),(fun h=> by cases h),(fun h=> by cases h),?_,(fun h=> by cases h),trivial⟩
  ·exact fun _=> ⟨rfl,rfl,fun a w2 K h=> flow_alloc rfl rfl Try.zeroValue88 (by simp) h⟩
 ·refine Each.all ?_
  refine ⟨(fun _ h=> by cases h),(fun _ h=> by cases h),(fun _ h=> by cases h),(fun _ h=> by cases h),?_,trivial⟩
  ·intro p hp
   obtain rfl:3=p:=Option.some.inj hp
   exact ⟨rfl,rfl,⟨_,rfl⟩,waits_spec rfl,fun a w2 b K hB hF hd hx hb h=> flow_put rfl rfl Try.size88 hx (hd 2 _ rfl rfl rfl (waits_spec rfl)) hb h⟩
 ·intro a w2 blk hB hF hS hv hfin hdis
  obtain ⟨v3,v3l,v3u⟩:=hv 3 _ rfl rfl
  have ha:=puts_each rfl rfl hF [_,_,_,_,undef] rfl ⟨hS 0 _ rfl rfl rfl,hS 1 _ rfl rfl rfl,hS 2 _ rfl rfl rfl,v3,trivial,trivial⟩
  have f3:=hfin 4 _ 3 rfl rfl
  simp only [puts,Act.put,List.setIfInBounds_toArray,List.set_cons_succ,List.set_cons_zero] at ha
  subst ha
  have V3:Arr .u8 w2 (blk 3) 64 (blkB key nonce 0):=⟨_,f3⟩
  clear hS hv hfin hdis hF v3 f3
  have hZ2:=hZ.kept hB
  have hb2:=hbel.trans (hB.mono hbel.size)
  obtain ⟨q,hq⟩:∃q,q=blk 3:=⟨_,rfl⟩
  rw [←hq] at V3 ⊢
  have hc3:∀i,i<32→w2.cell? ⟨q,0+i,none⟩=some (.int .u8 (dg 256 K i)):=fun i hi=> by rw [Nat.zero_add,V3.cell i (by omega),HKD.out i hi]
  have HC3:=Lib.hid hc3
  have hql:=V3.lt
  have HBW:=Lib.hid (HB.out.below hb2)
  have HHW:=Lib.hid (HH.out.below hb2)
  have HZ2:=Lib.hid hZ2
  clear hA hN hZ hbel hs hq hc3 hB V3 hZ2
  go_upto_region 2 with (fail)
  refine region_lasts (n:=30) (fun i=> i==17) (by kernel_rfl) (by kernel_rfl) (by kernel_rfl) (by kernel_rfl) rfl
   (fun ii vv ww=> (match ii with | 0=> vv=.slice (some ⟨q,0,none⟩) 32 64 | 1=> vv=.pointer (some ⟨q,0,none⟩) | 2=> vv=.agg (arr .u8 32 (dg 256 K)) | 3 | 4 | 11=> vv=.slice ab nb cb | 5=> vv=.int .i64 ((nb:Int)) | 7 | 8 | 13=> vv=.slice ah nh ch | 9=> vv=.int .i64 ((nh:Int)) | 16=> vv=.agg (arr .u8 16 (dg 256 TN)) | _=> True)∧(ii=6→Rd .u8 ww vv (gp nb) (fun _=> 0))∧(ii=10→Rd .u8 ww vv (gp nh) (fun _=> 0))∧(ii=12→Rd .u8 ww vv 8 (num8 nb))∧(ii=14→Rd .u8 ww vv 8 (num8 nh))∧(ii=15→Txt ww vv 6 (lens6 nb nh) (text6 nb fb nh fh)))
   (fun w w'=> Below w.heap.size w w') (fun _ _ h=> h) (fun i v w w' h hE=> ⟨h.1,fun e=> Rd.below (h.2.1 e) hE,fun e=> Rd.below (h.2.2.1 e) hE,fun e=> Rd.below (h.2.2.2.1 e) hE,fun e=> Rd.below (h.2.2.2.2.1 e) hE,fun e=> Txt.below (h.2.2.2.2.2 e) hE⟩)
   (fun _=> (w.heap.size+2)) (fun _=> (arr .u8 16 (fun _=> 0))) (fun _=> (arr .u8 16 (dg 256 TN)))
   (by intro i j _ _ hpi hpj hne;simp only [beq_iff_eq] at hpi hpj;omega)
   (by intro i _ hpi;exact (HZ2.out).row)
   ?_ ?_ ?_
  ·refine Each.all ?_
   refine ⟨?_,?_,?_,?_,?_,?_,?_,?_,?_,?_,?_,?_,?_,?_,?_,?_,?_,(fun h=> absurd h (by decide)),trivial⟩
   ·intro _ a w2 hB hF hd
    rw [if_pos (wanted_none rfl)]
    exact flow_val (fun h=> by cases h) (run_slice_part rfl (hF.same 9 rfl) (by simp only [Option.map_some,Option.map_none];exact run_sliceAt_ptr_h (m:=32) Try.underlying88 Try.size5 (by decide))) ⟨rfl,fun h=> absurd h (by decide),fun h=> absurd h (by decide),fun h=> absurd h (by decide),fun h=> absurd h (by decide),fun h=> absurd h (by decide)⟩
   ·intro _ a w2 hB hF hd
    rw [if_pos (wanted_none rfl)]
    exact flow_val (fun h=> by cases h) (run_to_array rfl ((hd 0 _ rfl rfl (waits_spec rfl)).1) Try.underlying22 (by decide)) ⟨rfl,fun h=> absurd h (by decide),fun h=> absurd h (by decide),fun h=> absurd h (by decide),fun h=> absurd h (by decide),fun h=> absurd h (by decide)⟩
   ·intro _ a w2 hB hF hd
    rw [if_pos (wanted_none rfl)]
    exact flow_val (fun h=> by cases h) (run_load_part rfl ((hd 1 _ rfl rfl (waits_spec rfl)).1) Try.underlying22 Try.size22 (fun i hi=> (hB.cell (p:=⟨q,0+i,none⟩) hql).trans (HC3.out i hi))) ⟨rfl,fun h=> absurd h (by decide),fun h=> absurd h (by decide),fun h=> absurd h (by decide),fun h=> absurd h (by decide),fun h=> absurd h (by decide)⟩
   ·intro _ a w2 hB hF hd
    rw [if_pos (wanted_none rfl)]
    exact flow_move _ (.inl rfl) (by simp) ⟨(hF.same 2 rfl),fun h=> absurd h (by decide),fun h=> absurd h (by decide),fun h=> absurd h (by decide),fun h=> absurd h (by decide),fun h=> absurd h (by decide)⟩
   ·intro _ a w2 hB hF hd
    rw [if_pos (wanted_none rfl)]
    exact flow_move _ (.inl rfl) (by simp) ⟨(hF.same 2 rfl),fun h=> absurd h (by decide),fun h=> absurd h (by decide),fun h=> absurd h (by decide),fun h=> absurd h (by decide),fun h=> absurd h (by decide)⟩
   ·intro _ a w2 hB hF hd
    rw [if_pos (wanted_none rfl)]
    exact flow_val (fun h=> by cases h) (run_len_sl rfl ((hd 4 _ rfl rfl (waits_spec rfl)).1) Try.underlying28) ⟨rfl,fun h=> absurd h (by decide),fun h=> absurd h (by decide),fun h=> absurd h (by decide),fun h=> absurd h (by decide),fun h=> absurd h (by decide)⟩
   ·intro _ a w2 hB hF hd
    rw [if_pos (wanted_none rfl)]
    refine flow_call _ _ _ rfl Try.call67 _ (args1 ((hd 5 _ rfl rfl (waits_spec rfl)).1)) (by simp) ((aGap_any nb (by omega) _).mono ?_)
    rintro e w3 ⟨u,rfl,hr,hb⟩;exact ⟨u,rfl,⟨trivial,fun _=> hr,fun h=> absurd h (by decide),fun h=> absurd h (by decide),fun h=> absurd h (by decide),fun h=> absurd h (by decide)⟩,hb⟩
   ·intro _ a w2 hB hF hd
    rw [if_pos (wanted_none rfl)]
    exact flow_move _ (.inl rfl) (by simp) ⟨(hF.same 3 rfl),fun h=> absurd h (by decide),fun h=> absurd h (by decide),fun h=> absurd h (by decide),fun h=> absurd h (by decide),fun h=> absurd h (by decide)⟩
   ·intro _ a w2 hB hF hd
    rw [if_pos (wanted_none rfl)]
    exact flow_move _ (.inl rfl) (by simp) ⟨(hF.same 3 rfl),fun h=> absurd h (by decide),fun h=> absurd h (by decide),fun h=> absurd h (by decide),fun h=> absurd h (by decide),fun h=> absurd h (by decide)⟩
   ·intro _ a w2 hB hF hd
    rw [if_pos (wanted_none rfl)]
    exact flow_val (fun h=> by cases h) (run_len_sl rfl ((hd 8 _ rfl rfl (waits_spec rfl)).1) Try.underlying28) ⟨rfl,fun h=> absurd h (by decide),fun h=> absurd h (by decide),fun h=> absurd h (by decide),fun h=> absurd h (by decide),fun h=> absurd h (by decide)⟩
   ·intro _ a w2 hB hF hd
    rw [if_pos (wanted_none rfl)]
    refine flow_call _ _ _ rfl Try.call67 _ (args1 ((hd 9 _ rfl rfl (waits_spec rfl)).1)) (by simp) ((aGap_any nh (by omega) _).mono ?_)
    rintro e w3 ⟨u,rfl,hr,hb⟩;exact ⟨u,rfl,⟨trivial,fun h=> absurd h (by decide),fun _=> hr,fun h=> absurd h (by decide),fun h=> absurd h (by decide),fun h=> absurd h (by decide)⟩,hb⟩
   ·intro _ a w2 hB hF hd
    rw [if_pos (wanted_none rfl)]
    exact flow_move _ (.inl rfl) (by simp) ⟨(hF.same 2 rfl),fun h=> absurd h (by decide),fun h=> absurd h (by decide),fun h=> absurd h (by decide),fun h=> absurd h (by decide),fun h=> absurd h (by decide)⟩
   ·intro _ a w2 hB hF hd
    rw [if_pos (wanted_none rfl)]
    refine flow_call _ _ _ rfl Try.call68 _ (args1 ((hd 11 _ rfl rfl (waits_spec rfl)).1)) (by simp) ((aSize_any _ nb _ _ (HBW.out.below hB) (by omega)).mono ?_)
    rintro e w3 ⟨u,rfl,hr,hb⟩;exact ⟨u,rfl,⟨trivial,fun h=> absurd h (by decide),fun h=> absurd h (by decide),fun _=> hr,fun h=> absurd h (by decide),fun h=> absurd h (by decide)⟩,hb⟩
   ·intro _ a w2 hB hF hd
    rw [if_pos (wanted_none rfl)]
    exact flow_move _ (.inl rfl) (by simp) ⟨(hF.same 3 rfl),fun h=> absurd h (by decide),fun h=> absurd h (by decide),fun h=> absurd h (by decide),fun h=> absurd h (by decide),fun h=> absurd h (by decide)⟩
   ·intro _ a w2 hB hF hd
    rw [if_pos (wanted_none rfl)]
    refine flow_call _ _ _ rfl Try.call68 _ (args1 ((hd 13 _ rfl rfl (waits_spec rfl)).1)) (by simp) ((aSize_any _ nh _ _ (HHW.out.below hB) (by omega)).mono ?_)
    rintro e w3 ⟨u,rfl,hr,hb⟩;exact ⟨u,rfl,⟨trivial,fun h=> absurd h (by decide),fun h=> absurd h (by decide),fun h=> absurd h (by decide),fun _=> hr,fun h=> absurd h (by decide)⟩,hb⟩
   ·intro _ a w2 hB hF hd
    rw [if_pos (wanted_none rfl)]
    exact flow_lits 37 28 6 _ [.slice ab nb cb,a.eval (Operand.tmp 19),.slice ah nh ch,a.eval (Operand.tmp 23),a.eval (Operand.tmp 25),a.eval (Operand.tmp 27)] rfl Try.underlying37 (by kernel_rfl) (by kernel_rfl) rfl (by decide) (by decide) (by intro v hv;simp only [List.mem_cons,List.not_mem_nil,or_false] at hv;rcases hv with rfl | rfl | rfl | rfl | rfl | rfl<;> first | exact Rd.one ((hd 6 _ rfl rfl (waits_spec rfl)).2.1 rfl) | exact Rd.one ((hd 10 _ rfl rfl (waits_spec rfl)).2.2.1 rfl) | exact Rd.one ((hd 12 _ rfl rfl (waits_spec rfl)).2.2.2.1 rfl) | exact Rd.one ((hd 14 _ rfl rfl (waits_spec rfl)).2.2.2.2.1 rfl) | rfl) (by simp only [List.map_toArray,List.map_cons,List.map_nil,show a.eval (Operand.tmp 16)=.slice ab nb cb from ((hd 3 _ rfl rfl (waits_spec rfl)).1),show a.eval (Operand.tmp 20)=.slice ah nh ch from ((hd 7 _ rfl rfl (waits_spec rfl)).1)];rfl) (by simp) ⟨trivial,fun h=> absurd h (by decide),fun h=> absurd h (by decide),fun h=> absurd h (by decide),fun h=> absurd h (by decide),fun _=> (new6 (HBW.out.below hB) ((hd 6 _ rfl rfl (waits_spec rfl)).2.1 rfl) (HHW.out.below hB) ((hd 10 _ rfl rfl (waits_spec rfl)).2.2.1 rfl) ((hd 12 _ rfl rfl (waits_spec rfl)).2.2.2.1 rfl) ((hd 14 _ rfl rfl (waits_spec rfl)).2.2.2.2.1 rfl))⟩
   ·intro _ a w2 hB hF hd
    rw [if_pos (wanted_none rfl)]
    refine flow_call _ _ _ rfl Try.call66 _ (args2 ((hd 2 _ rfl rfl (waits_spec rfl)).1) rfl) (by simp) (((HTN.out▸tag_any K HKB.out _ 6 _ _ F N w2 ((hd 15 _ rfl rfl (waits_spec rfl)).2.2.2.2.2 rfl) HG.out HN.out HN2.out HF.out)).mono ?_)
    rintro e w3 ⟨rfl,hb⟩;exact ⟨_,rfl,⟨rfl,fun h=> absurd h (by decide),fun h=> absurd h (by decide),fun h=> absurd h (by decide),fun h=> absurd h (by decide),fun h=> absurd h (by decide)⟩,hb⟩
  ·refine Each.all ?_
   refine ⟨(fun h=> absurd h (by decide)),(fun h=> absurd h (by decide)),(fun h=> absurd h (by decide)),(fun h=> absurd h (by decide)),(fun h=> absurd h (by decide)),(fun h=> absurd h (by decide)),(fun h=> absurd h (by decide)),(fun h=> absurd h (by decide)),(fun h=> absurd h (by decide)),(fun h=> absurd h (by decide)),(fun h=> absurd h (by decide)),(fun h=> absurd h (by decide)),(fun h=> absurd h (by decide)),(fun h=> absurd h (by decide)),(fun h=> absurd h (by decide)),(fun h=> absurd h (by decide)),(fun h=> absurd h (by decide)),?_,trivial⟩
   ·intro _ a w1 w2 K hB hF hS hr hK
    exact wp_store_arr 96 _ _ rfl .u8 ((w.heap.size+2)) 16 (fun _=> 0) (dg 256 TN) Try.size96 (hF.same 8 rfl) ((hS 16 _ rfl rfl).1) hr hK
  ·intro a wf w4 hB hF hS hfil
   have other:∀{k:IntKind} {qb n:Nat} {f:Nat→Int},qb≠(w.heap.size+2)→Arr k wf qb n f→Arr k w4 qb n f:=fun {k qb n f} e0 hA=> hfil.arr (by intro i _ hpi;simp only [Bool.or_eq_true,beq_iff_eq] at hpi;subst hpi<;> ((try simp only []);(try dsimp only);omega)) hA
   have belowT:∀{B:Nat} {w0:World},B≤(w.heap.size+2)→Below B w0 wf→Below B w0 w4:=fun {B w0} e0 hA=> hfil.below (by intro i _ hpi;simp only [Bool.or_eq_true,beq_iff_eq] at hpi;subst hpi<;> ((try simp only []);(try dsimp only);omega)) hA
   have V17:Arr .u8 w4 ((w.heap.size+2)) 16 (dg 256 TN):=hfil.at 17 (by decide) rfl
   have hszf:=hfil.size
   clear hfil
   obtain ⟨x19,hx19⟩:∃x,x=a.tmps.getD 19 undef:=⟨_,rfl⟩
   obtain ⟨x23,hx23⟩:∃x,x=a.tmps.getD 23 undef:=⟨_,rfl⟩
   obtain ⟨x25,hx25⟩:∃x,x=a.tmps.getD 25 undef:=⟨_,rfl⟩
   obtain ⟨x27,hx27⟩:∃x,x=a.tmps.getD 27 undef:=⟨_,rfl⟩
   obtain ⟨x28,hx28⟩:∃x,x=a.tmps.getD 28 undef:=⟨_,rfl⟩
   have ha:=puts_each rfl rfl hF [_,_,_,_,_,_,x19,_,_,_,x23,_,x25,_,x27,x28,_,undef] rfl ⟨(hS 0 _ rfl rfl).1,(hS 1 _ rfl rfl).1,(hS 2 _ rfl rfl).1,(hS 3 _ rfl rfl).1,(hS 4 _ rfl rfl).1,(hS 5 _ rfl rfl).1,hx19.symm,(hS 7 _ rfl rfl).1,(hS 8 _ rfl rfl).1,(hS 9 _ rfl rfl).1,hx23.symm,(hS 11 _ rfl rfl).1,hx25.symm,(hS 13 _ rfl rfl).1,hx27.symm,hx28.symm,(hS 16 _ rfl rfl).1,trivial,trivial⟩
   simp only [puts,Act.put,List.setIfInBounds_toArray,List.set_cons_succ,List.set_cons_zero] at ha
   subst ha
   clear hx19 hx23 hx25 hx27 hx28
   clear hS hF
   have hb4:=belowT (by omega) (hb2.trans (hB.mono hb2.size))
   go_wp2
   exact bodyPost_ret (results_arr rfl _ _ .u8 (w.heap.size+2) 16 _ 5 rfl V17 Try.underlying96 Try.size96) rfl ⟨rfl,hb4⟩
end Go.Proofs.Ytpcjekgfnfjbpaa
namespace Go.Bas
open Go.RowKit
def sealF (key nonce:Nat→Int) (nb:Nat) (fb:Nat→Int) (n:Nat) (f:Nat→Int) (i:Nat):Int:=if i<n then hidB key nonce 1 f i else dg 256 (aTag key nonce nb fb n (hidB key nonce 1 f)) (i - n)
theorem sealF_lo {key nonce:Nat→Int} {nb:Nat} {fb:Nat→Int} {n:Nat} {f:Nat→Int} {i:Nat} (h:i<n):sealF key nonce nb fb n f i=hidB key nonce 1 f i:=if_pos h
theorem sealF_hi {key nonce:Nat→Int} {nb:Nat} {fb:Nat→Int} {n:Nat} {f:Nat→Int} (i:Nat):sealF key nonce nb fb n f (n+i)=dg 256 (aTag key nonce nb fb n (hidB key nonce 1 f)) i:=by
 unfold sealF
 rw [if_neg (by omega),Nat.add_sub_cancel_left]
theorem hidB_bound (key nonce:Nat→Int) (c:Int) (f:Nat→Int) (i:Nat):0≤hidB key nonce c f i∧hidB key nonce c f i<256:=xo_bound _ _
end Go.Bas
namespace Go.Proofs.Ytpcjekgfnfjbpaa
open Go.RowKit Go.Bas
attribute [local go_sem ↓] Go.wp_at_zero Go.wp_at_succ
theorem aSeal_any (key nonce:Nat→Int) (hk:∀i,i<32→0≤key i∧key i<256) (hn:∀i,i<12→0≤nonce i∧nonce i<256) (vb v:Value) (nb n:Nat) (fb f:Nat→Int) (w:World)
  (hb:Rd .u8 w vb nb fb) (hv:Rd .u8 w v n f) (hfb:∀i,i<nb→0≤fb i∧fb i<256) (l1:nb≤400000) (l2:n≤400000):
  Calls Try.prog 53 #[.agg (arr .u8 32 key),.agg (arr .u8 12 nonce),vb,v] w fun e w'=>
   ∃v,e=.returned (.tuple #[v,.int .i64 0])∧Go.Bas.Own .u8 5 w.heap.size w' v (n+16) (sealF key nonce nb fb n f)∧Below w.heap.size w w':=by
 have HK:=Lib.hid hk
 have HN:=Lib.hid hn
 have HFB:=Lib.hid hfb
 have HB:=Lib.hid hb
 have HV:=Lib.hid hv
 obtain ⟨ab,cb,rfl,b1,b2,b3,b4⟩:=hb
 obtain ⟨a1,c1,rfl,h1,h2,h3,h4⟩:=hv
 clear hk hn hfb b3 b4 h3 h4
 go_enter Try.func53,Try.ntmps53
 go_upto_region 1 with (fail)
 refine wp_world (fun w1=> Arr .u8 w1 w.heap.size 32 key∧Arr .u8 w1 (w.heap.size+1) 12 nonce∧Below w.heap.size w w1∧w1.heap.size=w.heap.size+2)
  ⟨Arr.alloc (Arr.newAt rfl rfl) _,Arr.newAt (by simp) rfl,((Below.refl _ _).alloc (Nat.le_refl _) _).alloc (by simp) _,by simp⟩ ?_
 rintro w1 ⟨hA,hN,hbel,hs⟩
 go_wp2_with (first
  | (refine load_arr rfl 22 _ rfl .u8 w.heap.size 32 _ 5 Try.underlying22 Try.size22 rfl hA ?_)
  | (refine load_arr rfl 85 _ rfl .u8 (w.heap.size+1) 12 _ 5 Try.underlying85 Try.size85 rfl hN ?_))
 refine (hide_own key nonce 1 HK.out HN.out (by decide) _ n f _ (HV.out.below hbel) (by omega) (by omega)).mono ?_
 rintro e w2 ⟨v2,rfl,hO,hb2⟩
 have hA2:=hA.kept hb2
 have hN2:=hN.kept hb2
 have hbel2:=hbel.trans (hb2.mono hbel.size)
 have HO:=Lib.hid hO
 have HR:=Lib.hid hO.rd
 have HBW:=Lib.hid (HB.out.below hbel2)
 have s1:=hbel2.size
 have s2:=hb2.size
 clear hA hN hbel hb2 hO
 go_wp2_with (first
  | (refine load_arr rfl 22 _ rfl .u8 w.heap.size 32 _ 5 Try.underlying22 Try.size22 rfl hA2 ?_)
  | (refine load_arr rfl 85 _ rfl .u8 (w.heap.size+1) 12 _ 5 Try.underlying85 Try.size85 rfl hN2 ?_))
 refine (aTag_any key nonce HK.out HN.out _ _ nb n fb (hidB key nonce 1 f) _ HBW.out HR.out HFB.out (fun i _=> hidB_bound _ _ _ _ _) l1 l2).mono ?_
 rintro e w3 ⟨rfl,hb3⟩
 have hbel3:=hbel2.trans (hb3.mono hbel2.size)
 have HO3:=Lib.hid ((HO.out.below hb3).congr (g:=sealF key nonce nb fb n f) (fun i hi=> (sealF_lo hi).symm))
 have s3:=hb3.size
 clear hA2 hN2 hbel2 hb3 HO
 go_upto_region 7 with (refine store_arr rfl 96 _ _ rfl .u8 w3.heap.size 16 (fun _=> 0) _ Try.size96 rfl rfl (Arr.newAt rfl (by rfl)) ?_)
 refine wp_world (fun w4=> Arr .u8 w4 w3.heap.size 16 (dg 256 (aTag key nonce nb fb n (hidB key nonce 1 f)))∧Go.Bas.Own .u8 5 w1.heap.size w4 v2 n (sealF key nonce nb fb n f)∧Below w.heap.size w w4)
  ⟨Arr.setRow (Arr.newAt (n:=16) (f:=fun _=> 0) rfl (by rfl)) _ _,HO3.out.below (below_setRow' ((Below.refl _ _).alloc (Nat.le_refl _) _) (Nat.le_refl _) _),below_setRow' (hbel3.alloc hbel3.size _) hbel3.size _⟩ ?_
 rintro w4 ⟨hT,hO4,hbel4⟩
 have HO4:=Lib.hid hO4
 have HT:=Lib.hid (hT.rd (by decide))
 have hs4:=hT.lt
 clear hO4 hT HO3 hbel3
 simp only [Act.put]
 go_wp2_with (at_builtin;refine append_rd rfl _ _ 28 rfl w1.heap.size 5 .u8 1 Try.underlying28 Try.info5 _ n _ HO4.out rfl _ 16 _ HT.out rfl (fun i _=> sealF_hi i) (by omega) (by omega) (by omega) ?_;intro v5 w5 hown hgr)
 have hb5:=below_grown hbel4 hgr HO4.out hbel4.size (by omega)
 have HO5:=Lib.hid hown
 clear hown hgr
 go_ret2
 exact ⟨_,rfl,HO5.out.mono (by omega),hb5⟩
end Go.Proofs.Ytpcjekgfnfjbpaa
namespace Go.Bas
open Go.RowKit
def opensB (key nonce:Nat→Int) (nb:Nat) (fb:Nat→Int) (n:Nat) (f:Nat→Int):Bool:=sameB 16 (dg 256 (aTag key nonce nb fb n f)) (fun i=> f (n+i))
def TupR (w:World) (v:Value) (n:Nat) (f:Nat→Int):Prop:=∃u,v=.tuple #[u,.int .i64 0] ∧Rd .u8 w u n f
theorem TupR.below {w w':World} {v:Value} {n:Nat} {f:Nat→Int} (h:TupR w v n f) (hb:Below w.heap.size w w'):TupR w' v n f:=by
 obtain ⟨u,h1,h2⟩:=h;exact ⟨u,h1,h2.below hb⟩
def OpR (ok:Bool) (w:World) (v:Value) (n:Nat) (h:Nat→Int):Prop:=(ok=true→TupR w v n h)∧(ok=false→v=.tuple #[.slice none 0 0,.int .i64 20])
theorem OpR.yes {w:World} {u:Value} {n:Nat} {h:Nat→Int} (hr:Rd .u8 w u n h):OpR true w (.tuple #[u,.int .i64 0]) n h:=⟨fun _=> ⟨u,rfl,hr⟩,fun h=> Bool.noConfusion h⟩
theorem OpR.no {w:World} {n:Nat} {h:Nat→Int}:OpR false w (.tuple #[.slice none 0 0,.int .i64 20]) n h:=⟨fun h=> Bool.noConfusion h,fun _=> rfl⟩
end Go.Bas
namespace Go.Proofs.Ytpcjekgfnfjbpaa
open Go.RowKit Go.Bas
attribute [local go_sem ↓] Go.wp_at_zero Go.wp_at_succ
theorem hide_t (key nonce:Nat→Int) (c:Int) (hk:∀i,i<32→0≤key i∧key i<256) (hn:∀i,i<12→0≤nonce i∧nonce i<256) (hc:0≤c∧c<4294967296)
  (v:Value) (n:Nat) (f:Nat→Int) (w:World) (hv:Rd .u8 w v n f) (h1:n≤1048576) (h2:((n+63) / 64:Nat)≤4294967296 - c):
  Calls Try.prog 57 #[.agg (arr .u8 32 key),.agg (arr .u8 12 nonce),.int .u32 c,v] w fun e w'=> ∃u,e=.returned u∧TupR w' u n (hidB key nonce c f)∧Below w.heap.size w w':=
 (hide_any key nonce c hk hn hc v n f w hv h1 h2).mono fun _ _ ⟨v,h1,h2,h3⟩=> ⟨_,h1,⟨v,rfl,h2⟩,h3⟩
theorem aOpen_short (key nonce:Nat→Int) (vb v:Value) (nb n:Nat) (fb f:Nat→Int) (w:World) (hb:Rd .u8 w vb nb fb) (hv:Rd .u8 w v n f) (l1:nb≤400000) (l2:n<16):
  Calls Try.prog 43 #[.agg (arr .u8 32 key),.agg (arr .u8 12 nonce),vb,v] w fun e w'=> e=.returned (.tuple #[.slice none 0 0,.int .i64 10])∧Below w.heap.size w w':=by
 obtain ⟨ab,cb,rfl,b1,b2,b3,b4⟩:=hb
 obtain ⟨a1,c1,rfl,h1,h2,h3,h4⟩:=hv
 clear b3 b4 h3 h4
 have q1:¬ (1048576:Int)<(n:Int):=by omega
 have q2:¬ (1048576:Int)<(nb:Int):=by omega
 go_enter Try.func43,Try.ntmps43
 go_wp2
 go_ret2
 exact ⟨rfl,((Below.refl _ _).alloc (Nat.le_refl _) _).alloc (by simp) _⟩
theorem aOpen_any (key nonce:Nat→Int) (hk:∀i,i<32→0≤key i∧key i<256) (hn:∀i,i<12→0≤nonce i∧nonce i<256) (vb v:Value) (nb n:Nat) (fb f:Nat→Int) (w:World)
  (hb:Rd .u8 w vb nb fb) (hv:Rd .u8 w v (n+16) f) (hfb:∀i,i<nb→0≤fb i∧fb i<256) (hf:∀i,i<n+16→0≤f i∧f i<256) (l1:nb≤400000) (l2:n≤400000):
  Calls Try.prog 43 #[.agg (arr .u8 32 key),.agg (arr .u8 12 nonce),vb,v] w fun e w'=>
   ∃v,e=.returned v∧OpR (opensB key nonce nb fb n f) w' v n (hidB key nonce 1 f)∧Below w.heap.size w w':=by
 have HK:=Lib.hid hk
 have HN:=Lib.hid hn
 have HFB:=Lib.hid hfb
 have HF:=Lib.hid hf
 have HB:=Lib.hid hb
 have HV:=Lib.hid hv
 obtain ⟨T,hT⟩:∃T,T=aTag key nonce nb fb n f:=⟨_,rfl⟩
 obtain ⟨ok,hok⟩:∃ok,ok=opensB key nonce nb fb n f:=⟨_,rfl⟩
 have HOK:Hid (sameB 16 (dg 256 T) (fun i=> f (n+i))=ok):=by rw [hok,hT];exact rfl
 rw [←hok]
 have HT:=Lib.hid hT
 obtain ⟨N,hNn⟩:∃N,N=n+16:=⟨_,rfl⟩
 rw [←hNn] at hv HV HF
 obtain ⟨ab,cb,rfl,b1,b2,b3,b4⟩:=hb
 obtain ⟨a1,c1,rfl,h1,h2,h3,h4⟩:=hv
 have G1:=Lib.hid (Rd.head (P:=Try.prog) Try.underlying28 Try.info5 a1 N c1 n (by omega) h1)
 obtain ⟨la,k1,k2,k3⟩:=Rd.cut Try.underlying28 Try.info5 a1 N c1 n N (by omega) (Nat.le_refl _) h1
 rw [show N - n=16 by omega] at k2 k3
 have K2:=Lib.hid k2
 have K3:=Lib.hid (fun w f h=> (k3 w f h).2)
 have q0:(N:Int) - 16=(n:Int):=by omega
 have q1:¬ (1048576:Int)<(N:Int):=by omega
 have q2:¬ (1048576:Int)<(nb:Int):=by omega
 have q3:¬ ((n:Int)<0):=by omega
 have HNn:=Lib.hid hNn
 clear hk hn hfb hf b3 b4 h3 h4 k1 k2 k3 hT hok hNn
 go_enter Try.func43,Try.ntmps43
 go_upto_region 1 with (fail)
 refine wp_world (fun w1=> Arr .u8 w1 w.heap.size 32 key∧Arr .u8 w1 (w.heap.size+1) 12 nonce∧Below w.heap.size w w1∧w1.heap.size=w.heap.size+2)
  ⟨Arr.alloc (Arr.newAt rfl rfl) _,Arr.newAt (by simp) rfl,((Below.refl _ _).alloc (Nat.le_refl _) _).alloc (by simp) _,by simp⟩ ?_
 rintro w1 ⟨hA,hN,hbel,hs⟩
 have HB1:=Lib.hid (HB.out.below hbel)
 have HV1:=Lib.hid (HV.out.below hbel)
 clear hs
 go_upto_region 6 with (fail)
 clear q0 q1 q2 q3
 refine region_vars (n:=48) (by kernel_rfl) (by kernel_rfl) (by kernel_rfl) rfl
  (isAl [(8,7)]) (putOf [(8,7)]) (fun _=> arr .u8 16 (fun _=> 0)) (fun _=> (arr .u8 16 (dg 256 T))) (fun _=> 96) (fun _=> 11)
  (fun ii vv _=> (match ii with | 0=> vv=.agg (arr .u8 32 (key)) | 1=> vv=.agg (arr .u8 12 (nonce)) | 2=> vv=.slice ab nb cb | 3=> vv=.slice a1 N c1 | 4=> vv=.int .i64 ((n:Int)) | 5=> vv=.slice a1 n c1 | 6=> vv=.agg (arr .u8 16 (dg 256 T)) | _=> True)) (fun _ _=> True) (fun _ _ _=> trivial) (fun _ _ _ _ _ _ _=> trivial) (fun _ _ _ _ h _=> h)
  (vs_al rfl) (vs_inj rfl) ?_ ?_ ?_ ?_
 ·refine Each.all ?_
  refine ⟨?_,?_,?_,?_,?_,?_,?_,(fun h=> by cases h),(fun _ h=> by cases h),trivial⟩
  ·intro _ _ a w2 hB hF hd
   rw [if_pos (wanted_none rfl)]
   exact flow_val (fun h=> by cases h) (run_load_str rfl Try.underlying22 rfl Try.size22 (hF.same 4 rfl) (hA.below hB hA.lt)) rfl
  ·intro _ _ a w2 hB hF hd
   rw [if_pos (wanted_none rfl)]
   exact flow_val (fun h=> by cases h) (run_load_str rfl Try.underlying85 rfl Try.size85 (hF.same 5 rfl) (hN.below hB hN.lt)) rfl
  ·intro _ _ a w2 hB hF hd
   rw [if_pos (wanted_none rfl)]
   exact flow_move _ (.inl rfl) (by simp) (hF.same 2 rfl)
  ·intro _ _ a w2 hB hF hd
   rw [if_pos (wanted_none rfl)]
   exact flow_move _ (.inl rfl) (by simp) (hF.same 3 rfl)
  ·intro _ _ a w2 hB hF hd
   rw [if_pos (wanted_none rfl)]
   exact flow_move _ (.inl rfl) (by simp) (hF.same 10 rfl)
  ·intro _ _ a w2 hB hF hd
   rw [if_pos (wanted_none rfl)]
   exact flow_val (fun h=> by cases h) (run_slice_part rfl (hd 3 _ rfl rfl rfl (waits_spec rfl)) (by simp only [Option.map_some,Option.map_none,show a.eval (Operand.tmp 31)=.int .i64 ((n:Int)) from (hd 4 _ rfl rfl rfl (waits_spec rfl))];exact G1.out.1 _)) rfl
  ·intro _ _ a w2 hB hF hd
   rw [if_pos (wanted_none rfl)]
   refine flow_call _ _ _ rfl Try.call55 _ (args4 (hd 0 _ rfl rfl rfl (waits_spec rfl)) (hd 1 _ rfl rfl rfl (waits_spec rfl)) (hd 2 _ rfl rfl rfl (waits_spec rfl)) (hd 5 _ rfl rfl rfl (waits_spec rfl))) (by simp) (((HT.out▸aTag_any key nonce HK.out HN.out _ _ nb n fb f _ (HB1.out.below hB) (G1.out.2 _ _ (HV1.out.below hB)) HFB.out (fun i hi=> HF.out i (by have:=HNn.out;omega)) l1 l2)).mono ?_)
   rintro e w3 ⟨rfl,hb⟩;exact ⟨_,rfl,rfl,hb⟩
 ·refine Each.all ?_
  refine ⟨(fun h=> by cases h),(fun h=> by cases h),(fun h=> by cases h),(fun h=> by cases h),(fun h=> by cases h),(fun h=> by cases h),(fun h=> by cases h),?_,(fun h=> by cases h),trivial⟩
  ·exact fun _=> ⟨rfl,rfl,fun a w2 K h=> flow_alloc rfl rfl Try.zeroValue96 (by simp) h⟩
 ·refine Each.all ?_
  refine ⟨(fun _ h=> by cases h),(fun _ h=> by cases h),(fun _ h=> by cases h),(fun _ h=> by cases h),(fun _ h=> by cases h),(fun _ h=> by cases h),(fun _ h=> by cases h),(fun _ h=> by cases h),?_,trivial⟩
  ·intro p hp
   obtain rfl:7=p:=Option.some.inj hp
   exact ⟨rfl,rfl,⟨_,rfl⟩,waits_spec rfl,fun a w2 b K hB hF hd hx hb h=> flow_put rfl rfl Try.size96 hx (hd 6 _ rfl rfl rfl (waits_spec rfl)) hb h⟩
 ·intro a w2 blk hB hF hS hv hfin hdis
  obtain ⟨v7,v7l,v7u⟩:=hv 7 _ rfl rfl
  have ha:=puts_each rfl rfl hF [_,_,_,_,_,_,_,_,undef] rfl ⟨hS 0 _ rfl rfl rfl,hS 1 _ rfl rfl rfl,hS 2 _ rfl rfl rfl,hS 3 _ rfl rfl rfl,hS 4 _ rfl rfl rfl,hS 5 _ rfl rfl rfl,hS 6 _ rfl rfl rfl,v7,trivial,trivial⟩
  have f7:=hfin 8 _ 7 rfl rfl
  simp only [puts,Act.put,List.setIfInBounds_toArray,List.set_cons_succ,List.set_cons_zero] at ha
  subst ha
  have V7:Arr .u8 w2 (blk 7) 16 (dg 256 T):=⟨_,f7⟩
  clear hS hv hfin hdis hF v7 f7
  have hA2:=hA.kept hB
  have hN2:=hN.kept hB
  have hb2:=hbel.trans (hB.mono hbel.size)
  have HV2:=Lib.hid (HV1.out.below hB)
  obtain ⟨q,hq⟩:∃q,q=blk 7:=⟨_,rfl⟩
  rw [←hq] at V7 ⊢
  clear hA hN hbel hB hq HB1 HV1
  go_upto_region 7 with (fail)
  refine region_flow (n:=48) (by kernel_rfl) (by kernel_rfl) (by kernel_rfl) rfl
   (fun ii vv _=> (match ii with | 0=> vv=.slice (some ⟨q,0,none⟩) 16 16 | 1=> vv=.slice a1 N c1 | 2=> vv=.int .i64 ((n:Int)) | 3=> vv=.slice la 16 (c1 - n) | 4=> vv=.bool ok | 5=> vv=.bool (!(ok)) | _=> True))
   (fun w w'=> Below w.heap.size w w') (fun _ _ h=> h) (fun _ _ _ _ h _=> h) ?_ ?_
  ·refine Each.all ?_
   refine ⟨?_,?_,?_,?_,?_,?_,trivial⟩
   ·intro a w2 hB hF hd
    rw [if_pos (wanted_none rfl)]
    exact flow_val (fun h=> by cases h) (run_slice_arr rfl (hF.same 11 rfl) Try.underlying96 (by kernel_rfl)) rfl
   ·intro a w2 hB hF hd
    rw [if_pos (wanted_none rfl)]
    exact flow_move _ (.inl rfl) (by simp) (hF.same 3 rfl)
   ·intro a w2 hB hF hd
    rw [if_pos (wanted_none rfl)]
    exact flow_move _ (.inl rfl) (by simp) (hF.same 10 rfl)
   ·intro a w2 hB hF hd
    rw [if_pos (wanted_none rfl)]
    exact flow_val (fun h=> by cases h) (run_slice_part rfl (hd 1 _ rfl (waits_spec rfl)) (by simp only [Option.map_some,Option.map_none,show a.eval (Operand.tmp 36)=.int .i64 ((n:Int)) from (hd 2 _ rfl (waits_spec rfl))];exact K2.out _)) rfl
   ·intro a w2 hB hF hd
    rw [if_pos (wanted_none rfl)]
    refine flow_call _ _ _ rfl Try.call56 _ (args2 (hd 0 _ rfl (waits_spec rfl)) (hd 3 _ rfl (waits_spec rfl))) (by simp) (((HOK.out▸aEqual_any _ _ 16 (dg 256 T) (fun i=> f (n+i)) _ ((V7.kept hB).rd (by decide)) (K3.out _ _ (HV2.out.below hB)) (fun i _=> dg_bound (by decide) _ _) (fun i hi=> HF.out _ (by have:=HNn.out;omega)))).mono ?_)
    rintro e w3 ⟨rfl,hb⟩;exact ⟨_,rfl,rfl,hb⟩
   ·intro a w2 hB hF hd
    rw [if_pos (wanted_none rfl)]
    exact flow_val (fun h=> by cases h) (run_not rfl (hd 4 _ rfl (waits_spec rfl))) rfl
  ·intro a w3 hB hF hS
   have ha:=puts_each rfl rfl hF [_,_,_,_,_,_] rfl ⟨hS 0 _ rfl,hS 1 _ rfl,hS 2 _ rfl,hS 3 _ rfl,hS 4 _ rfl,hS 5 _ rfl,trivial⟩
   simp only [puts,Act.put,List.setIfInBounds_toArray,List.set_cons_succ,List.set_cons_zero] at ha
   subst ha
   clear hS hF
   have hA3:=hA2.kept hB
   have hN3:=hN2.kept hB
   have hb3:=hb2.trans (hB.mono hb2.size)
   have HV3:=Lib.hid (HV2.out.below hB)
   clear hA2 hN2 hb2 hB V7 HV2
   cases ok with
   | false=>
    go_wp2
    go_ret2
    exact ⟨_,rfl,OpR.no,hb3⟩
   | true=>
    go_upto_region 9 with (fail)
    refine region_flow (n:=48) (by kernel_rfl) (by kernel_rfl) (by kernel_rfl) rfl
     (fun ii vv ww=> (match ii with | 0=> vv=.agg (arr .u8 32 (key)) | 1=> vv=.agg (arr .u8 12 (nonce)) | 2=> vv=.slice a1 N c1 | 3=> vv=.int .i64 ((n:Int)) | 4=> vv=.slice a1 n c1 | 7 | 9=> vv=.int .i64 (0) | _=> True)∧(ii=5→TupR ww vv n (hidB key nonce 1 f))∧(ii=6→Rd .u8 ww vv n (hidB key nonce 1 f))∧(ii=8→Rd .u8 ww vv n (hidB key nonce 1 f)))
     (fun w w'=> Below w.heap.size w w') (fun _ _ h=> h) (fun i v w w' h hE=> ⟨h.1,fun e=> TupR.below (h.2.1 e) hE,fun e=> Rd.below (h.2.2.1 e) hE,fun e=> Rd.below (h.2.2.2 e) hE⟩) ?_ ?_
    ·refine Each.all ?_
     refine ⟨?_,?_,?_,?_,?_,?_,?_,?_,?_,?_,trivial⟩
     ·intro a w2 hB hF hd
      rw [if_pos (wanted_none rfl)]
      exact flow_val (fun h=> by cases h) (run_load_str rfl Try.underlying22 rfl Try.size22 (hF.same 4 rfl) (hA3.below hB hA3.lt)) ⟨rfl,fun h=> absurd h (by decide),fun h=> absurd h (by decide),fun h=> absurd h (by decide)⟩
     ·intro a w2 hB hF hd
      rw [if_pos (wanted_none rfl)]
      exact flow_val (fun h=> by cases h) (run_load_str rfl Try.underlying85 rfl Try.size85 (hF.same 5 rfl) (hN3.below hB hN3.lt)) ⟨rfl,fun h=> absurd h (by decide),fun h=> absurd h (by decide),fun h=> absurd h (by decide)⟩
     ·intro a w2 hB hF hd
      rw [if_pos (wanted_none rfl)]
      exact flow_move _ (.inl rfl) (by simp) ⟨(hF.same 3 rfl),fun h=> absurd h (by decide),fun h=> absurd h (by decide),fun h=> absurd h (by decide)⟩
     ·intro a w2 hB hF hd
      rw [if_pos (wanted_none rfl)]
      exact flow_move _ (.inl rfl) (by simp) ⟨(hF.same 10 rfl),fun h=> absurd h (by decide),fun h=> absurd h (by decide),fun h=> absurd h (by decide)⟩
     ·intro a w2 hB hF hd
      rw [if_pos (wanted_none rfl)]
      exact flow_val (fun h=> by cases h) (run_slice_part rfl ((hd 2 _ rfl (waits_spec rfl)).1) (by simp only [Option.map_some,Option.map_none,show a.eval (Operand.tmp 43)=.int .i64 ((n:Int)) from ((hd 3 _ rfl (waits_spec rfl)).1)];exact G1.out.1 _)) ⟨rfl,fun h=> absurd h (by decide),fun h=> absurd h (by decide),fun h=> absurd h (by decide)⟩
     ·intro a w2 hB hF hd
      rw [if_pos (wanted_none rfl)]
      refine flow_call _ _ _ rfl Try.call57 _ (args4 ((hd 0 _ rfl (waits_spec rfl)).1) ((hd 1 _ rfl (waits_spec rfl)).1) rfl ((hd 4 _ rfl (waits_spec rfl)).1)) (by simp) ((hide_t key nonce 1 HK.out HN.out (by decide) _ n f _ (G1.out.2 _ _ (HV3.out.below hB)) (by omega) (by omega)).mono ?_)
      rintro e w3 ⟨u,rfl,hr,hb⟩;exact ⟨u,rfl,⟨trivial,fun _=> hr,fun h=> absurd h (by decide),fun h=> absurd h (by decide)⟩,hb⟩
     ·intro a w2 hB hF hd
      rw [if_pos (wanted_none rfl)]
      obtain ⟨u,hu,hR⟩:=((hd 5 _ rfl (waits_spec rfl)).2.1 rfl)
      exact flow_val (fun h=> by cases h) (run_extract rfl hu rfl) ⟨trivial,fun h=> absurd h (by decide),fun _=> hR,fun h=> absurd h (by decide)⟩
     ·intro a w2 hB hF hd
      rw [if_pos (wanted_none rfl)]
      obtain ⟨u,hu,hR⟩:=((hd 5 _ rfl (waits_spec rfl)).2.1 rfl)
      exact flow_val (fun h=> by cases h) (run_extract rfl hu rfl) ⟨rfl,fun h=> absurd h (by decide),fun h=> absurd h (by decide),fun h=> absurd h (by decide)⟩
     ·intro a w2 hB hF hd
      rw [if_pos (wanted_none rfl)]
      exact flow_move _ (.inr rfl) (by simp) ⟨trivial,fun h=> absurd h (by decide),fun h=> absurd h (by decide),fun _=> ((hd 6 _ rfl (waits_spec rfl)).2.2.1 rfl)⟩
     ·intro a w2 hB hF hd
      rw [if_pos (wanted_none rfl)]
      exact flow_move _ (.inr rfl) (by simp) ⟨((hd 7 _ rfl (waits_spec rfl)).1),fun h=> absurd h (by decide),fun h=> absurd h (by decide),fun h=> absurd h (by decide)⟩
    ·intro a w4 hB hF hS
     obtain ⟨x45,hx45⟩:∃x,x=a.tmps.getD 45 undef:=⟨_,rfl⟩
     have P45:TupR w4 x45 n (hidB key nonce 1 f):=by rw [hx45];exact (hS 5 _ rfl).2.1 rfl
     obtain ⟨x46,hx46⟩:∃x,x=a.tmps.getD 46 undef:=⟨_,rfl⟩
     have P46:Rd .u8 w4 x46 n (hidB key nonce 1 f):=by rw [hx46];exact (hS 6 _ rfl).2.2.1 rfl
     obtain ⟨x8,hx8⟩:∃x,x=a.tmps.getD 8 undef:=⟨_,rfl⟩
     have P8:Rd .u8 w4 x8 n (hidB key nonce 1 f):=by rw [hx8];exact (hS 8 _ rfl).2.2.2 rfl
     have ha:=puts_each rfl rfl hF [_,_,_,_,_,x45,x46,_,x8,_] rfl ⟨(hS 0 _ rfl).1,(hS 1 _ rfl).1,(hS 2 _ rfl).1,(hS 3 _ rfl).1,(hS 4 _ rfl).1,hx45.symm,hx46.symm,(hS 7 _ rfl).1,hx8.symm,(hS 9 _ rfl).1,trivial⟩
     simp only [puts,Act.put,List.setIfInBounds_toArray,List.set_cons_succ,List.set_cons_zero] at ha
     subst ha
     clear hx45 hx46 hx8
     clear hS hF
     have hb4:=hb3.trans (hB.mono hb3.size)
     have HP:=Lib.hid P8
     clear P8 P46 P45
     go_wp2
     go_ret2
     exact ⟨_,rfl,OpR.yes HP.out,hb4⟩
end Go.Proofs.Ytpcjekgfnfjbpaa
namespace Go.Bas
open Go.RowKit
theorem xo_back (s:Int) {f:Int} (h:0≤f∧f<256):xo s (xo s f)=f:=by
 obtain ⟨h0,h1⟩:=h
 have e:∀a b:Int,xo a b=((BitVec.ofInt 8 a ^^^ BitVec.ofInt 8 b).toNat:Int):=fun a b=> by
  unfold xo
  show IntKind.u8.wrap (((BitVec.ofInt 8 a ^^^ BitVec.ofInt 8 b).toNat:Nat):Int)= _
  have:=(BitVec.ofInt 8 a ^^^ BitVec.ofInt 8 b).isLt
  rw [IntKind.wrap_u8];omega
 rw [e,e,BitVec.ofInt_natCast,BitVec.ofNat_toNat,BitVec.setWidth_eq,←BitVec.xor_assoc,BitVec.xor_self,BitVec.zero_xor,BitVec.toNat_ofInt]
 omega
theorem sealF_bound (key nonce:Nat→Int) (nb:Nat) (fb:Nat→Int) (n:Nat) (f:Nat→Int) (i:Nat):0≤sealF key nonce nb fb n f i∧sealF key nonce nb fb n f i<256:=by
 unfold sealF
 split
 ·exact hidB_bound _ _ _ _ _
 ·exact dg_bound (by decide) _ _
theorem opens_seal {key nonce:Nat→Int} {nb:Nat} {fb:Nat→Int} {n:Nat} {f:Nat→Int}:opensB key nonce nb fb n (sealF key nonce nb fb n f)=true:=by
 unfold opensB
 refine sameB_yes fun i hi=> ?_
 rw [sealF_hi,aTag_congr (fun _ _=> rfl) (fun i hi=> sealF_lo hi)]
theorem open_seal {key nonce:Nat→Int} {nb:Nat} {fb:Nat→Int} {n:Nat} {f:Nat→Int} (hf:∀i,i<n→0≤f i∧f i<256):∀i,i<n→hidB key nonce 1 (sealF key nonce nb fb n f) i=f i:=fun i hi=> by
 show xo _ (sealF key nonce nb fb n f i)=f i
 rw [sealF_lo hi]
 exact xo_back _ (hf i hi)
def sameQ (n:Nat) (f:Nat→Int) (m:Nat) (g:Nat→Int):Bool:=decide (n=m) && sameB n f g
end Go.Bas
namespace Go.Proofs.Ytpcjekgfnfjbpaa
open Go.RowKit Go.Bas
attribute [local go_sem ↓] Go.wp_at_zero Go.wp_at_succ
theorem same_q (va vb:Value) (n m:Nat) (f g:Nat→Int) (w:World) (ha:Rd .u8 w va n f) (hb:Rd .u8 w vb m g):
  Calls Try.prog 12 #[va,vb] w fun e w'=> e=.returned (.bool (sameQ n f m g))∧Below w.heap.size w w':=by
 unfold sameQ
 by_cases h:n=m
 ·subst h
  rw [decide_eq_true rfl,Bool.true_and]
  by_cases hq:∀i,i<n→f i=g i
  ·rw [sameB_yes hq];exact same_yes va vb n f g w ha hb hq
  ·rw [sameB_no hq]
   obtain ⟨j,hj⟩:=Classical.not_forall.1 hq
   obtain ⟨h1,h2⟩:=Classical.not_imp.1 hj
   exact same_no va vb n f g w ha hb j h1 h2
 ·rw [decide_eq_false h,Bool.false_and];exact same_len va vb n m f g w ha hb h
end Go.Proofs.Ytpcjekgfnfjbpaa
