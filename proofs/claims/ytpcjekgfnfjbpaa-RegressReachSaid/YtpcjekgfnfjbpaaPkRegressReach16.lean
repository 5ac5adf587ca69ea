/-
  Part 16 of the texts that the proof of RegressReach rests on, one after the other. Conditions: named in each theorem.
-/
import Derived.Test.YtpcjekgfnfjbpaaPkRegressReach14
import Derived.Test.YtpcjekgfnfjbpaaPkRegressReach1
import Derived.Test.YtpcjekgfnfjbpaaPkRegressReach2
import Derived.Test.YtpcjekgfnfjbpaaPkRegressReach12
import Derived.Test.YtpcjekgfnfjbpaaPkRegressReach5
import Derived.Test.YtpcjekgfnfjbpaaPkRegressReach4
import Derived.Test.YtpcjekgfnfjbpaaPkRegressReach3
import Derived.Test.YtpcjekgfnfjbpaaPkRegressReach6
import Derived.Test.YtpcjekgfnfjbpaaPkRegressReach7
import Derived.Test.YtpcjekgfnfjbpaaPkRegressReach11
import Derived.Test.YtpcjekgfnfjbpaaPkRegressReach10
import Derived.Test.YtpcjekgfnfjbpaaPkRegressReach9
import Derived.Test.YtpcjekgfnfjbpaaPkRegressReach8
import Derived.Test.YtpcjekgfnfjbpaaPkRegressReach13
import Derived.Test.YtpcjekgfnfjbpaaPkRegressReach15
import Derived.BigFrame
import Derived.BigQuiet
import Derived.ChangeKeysEq
import Derived.ChangeMaps5
import Derived.ChangeOld
import Derived.Deep.Cut
import Derived.Deep.DrawnRows
import Derived.Deep.MidRow
import Derived.Deep.QuietTactic
import Derived.Deep.RegionHeld3
import Derived.Deep.RegionLaw
import Derived.Deep.Slices
import Derived.Deep.Strs
import Derived.Deep.Upon
import Derived.Deep.WholeRow
import Derived.DeepKeys4
import Derived.Great.BuildSlice
import Derived.Great.Walk
import Derived.Laws.BytesArg
import Derived.Laws.CopyOwn
import Derived.Laws.IdiomCopy
import Derived.Laws.Strings
import Derived.Laws.StructEq
import Derived.Lib.BufferRead
import Derived.Lib.Hide
import Derived.MapViews
import Derived.Maps.AppendAt
import Derived.Maps.OwnSet
import Derived.Maps.Range
import Derived.Maps.Views
import Derived.OpenShut
import Derived.Orders
import Derived.ProofKit
import Derived.ShutString
import Derived.StillTactics
import Derived.Test.YtpcjekgfnfjbpaaArr
import Derived.Test.YtpcjekgfnfjbpaaFlow
import Derived.Test.YtpcjekgfnfjbpaaKit
import Derived.Test.YtpcjekgfnfjbpaaOpen
import Derived.Test.YtpcjekgfnfjbpaaOpenT
import Derived.Test.YtpcjekgfnfjbpaaRows
import Derived.Test.YtpcjekgfnfjbpaaTxt
import Derived.WalkKit
import Derived.WalkLawsBesides
import Derived.WalkSmall
import Derived.WalkSpells
set_option linter.unusedVariables false
set_option linter.unusedSimpArgs false
set_option maxRecDepth 100000
set_option maxHeartbeats 1600000
namespace Go.Proofs.Ytpcjekgfnfjbpaa
open Go.RowKit Go.Bas Go.ChangeShapes Go.Maps
attribute [local go_sem ↓] Go.wp_at_zero Go.wp_at_succ
section
variable {B : Nat} {w w' : World} {p mb mt : Nat} {vl vb : Value} {tv : Nat → Value} {S : TS}
theorem tDraw_any {F:Nat→Prop} (h:StA B w p F S) (hB:B≤w.heap.size) (s:Int) (hl:S.l.length≤1000):
  Calls Try.prog 23 #[.pointer (some ⟨p,0,none⟩),.int .i64 s] w fun e w'=> e=.returned (.tuple #[.int .i64 (drawA S s).1,.int .i64 (drawA S s).2])∧∃F',StA B w' p F' (S.draw s)∧Chg F w w'∧∀b,F' b→F b∨w.heap.size≤b:=by
 obtain ⟨mb,mt,vl,vb,tv,h1,h2,h3⟩:=h
 have H:=Lib.hid h1
 have HOK:=Lib.hid h2
 have HFF:=Lib.hid h3
 have HBB:=Lib.hid hB
 have HL:=Lib.hid hl
 obtain ⟨PA,hPA⟩:∃x,x=drawA S s:=⟨_,rfl⟩
 obtain ⟨SP,hSP⟩:∃x,x=S.draw s:=⟨_,rfl⟩
 rw [←hPA,←hSP]
 have HPA:=Lib.hid hPA
 have HSP:=Lib.hid hSP
 clear h1 h2 h3 hB hl hPA hSP
 go_enter Try.func23,Try.ntmps23
 go_wp2_with fail
 refine (tIs_any H.out).mono ?_
 rintro e w1' ⟨rfl,rfl⟩
 go_wp2_with fail
 refine (tSort_any s _).mono ?_
 rintro e w1 ⟨rfl,rfl⟩
 cases hm:isSort s with
 | false=>
  have E1:Hid (PA=(0,2)):=Lib.hid (by rw [HPA.out];unfold drawA;rw [if_neg (by rw [hm];decide)])
  have E2:Hid (SP=S):=Lib.hid (by rw [HSP.out];unfold TS.draw;rw [if_neg (fun h=> by rw [hm] at h;cases h.1)])
  clear hm
  go_wp2
  go_ret2
  rw [E1.out,E2.out]
  exact ⟨rfl,F,⟨mb,mt,vl,vb,tv,H.out,HOK.out,HFF.out⟩,.refl _ _,fun b hb=> .inl hb⟩
 | true=>
  have hs:=hm
  simp only [isSort,Bool.and_eq_true,decide_eq_true_eq] at hs
  obtain ⟨k,rfl⟩:=Int.eq_ofNat_of_zero_le (show 0≤s by omega)
  have hk5:k<5:=by omega
  have hk9:(k:Int)<5:=by omega
  have z0:=H.out.nx k hk5
  have HTOP:=Lib.hid (nxt_top S.l k)
  have HNN:=Lib.hid (nxt_nonneg S.l k)
  by_cases hx:nxt S.l k≤topT
  ·have E1:Hid (PA=((S.l.length:Int),0)):=Lib.hid (by rw [HPA.out];unfold drawA;rw [if_pos hm,if_pos hx])
   have E2:Hid (SP=S.add (1,(k:Int),nxt S.l k)):=Lib.hid (by rw [HSP.out];unfold TS.draw;rw [if_pos ⟨hm,hx⟩])
   have HNEW:=Lib.hid (nxt_new hx)
   have OK2:Hid ((S.add (1,(k:Int),nxt S.l k)).Ok):=Lib.hid (HOK.out.add HNEW.out (.inl ⟨rfl,hs,HNN.out⟩))
   have HS:=Lib.hid hs
   have hgt:¬ (4611686018427387904:Int)<nxt S.l k:=by unfold topT at hx;omega
   obtain ⟨X,hX⟩:∃X,X=nxt S.l k:=⟨_,rfl⟩
   have HXT:Hid (0≤X∧X≤4611686018427387904):=Lib.hid (by rw [hX];exact ⟨HNN.out,by unfold topT at hx;exact hx⟩)
   rw [←hX] at z0 E2 HNEW OK2 hgt
   clear hm hs hx hX
   go_wp2_with fail
   refine (tAdd_any H.out HBB.out (1,(k:Int),X) ⟨⟨by simp,by simp⟩,⟨by simp only;omega,by simp only;omega⟩,⟨by simp only;have:=HXT.out;omega,by simp only;have:=HXT.out;omega⟩⟩ HNEW.out (fun _=> HS.out) HL.out).mono ?_
   rintro e w4 ⟨rfl,vl',h4,hc4,hf4⟩
   have S4:Hid (StA B w4 p (TF p mb mt vl' vb S.tx.length tv) (S.add (1,(k:Int),X))):=Lib.hid ⟨mb,mt,vl',vb,tv,h4,OK2.out,fun b=> Iff.rfl⟩
   have C4:Hid (Chg F w1 w4):=Lib.hid (hc4.mono (G:=F) fun b _ hb=> (HFF.out b).2 (by
    rcases hb with h | h | h
    ·exact .inl h
    ·exact .inr (.inl h)
    ·exact .inr (.inr (.inr (.inl h)))))
   have F4:Hid (∀b,TF p mb mt vl' vb S.tx.length tv b→F b∨w1.heap.size≤b):=Lib.hid fun b hb=> (TF.add (N:=w1.heap.size) hf4 b hb).imp (HFF.out b).2 id
   clear h4 hc4 hf4
   go_wp2
   go_ret2
   rw [E1.out,E2.out]
   exact ⟨rfl,_,S4.out,C4.out,F4.out⟩
  ·have E1:Hid (PA=(0,3)):=Lib.hid (by rw [HPA.out];unfold drawA;rw [if_pos hm,if_neg hx])
   have E2:Hid (SP=S):=Lib.hid (by rw [HSP.out];unfold TS.draw;rw [if_neg (fun h=> hx h.2)])
   have hgt:(4611686018427387904:Int)<nxt S.l k:=by unfold topT at hx;omega
   clear hm hs hx
   go_wp2
   go_ret2
   rw [E1.out,E2.out]
   exact ⟨rfl,F,⟨mb,mt,vl,vb,tv,H.out,HOK.out,HFF.out⟩,.refl _ _,fun b hb=> .inl hb⟩
end
section
variable {B : Nat} {w w' : World} {p : Nat} {F : Nat → Prop} {S : TS}
def getA (S:TS) (n:Int):Tm × Bool:=if 0≤n then (match S.l[n.toNat]? with | some t=> (t,true) | none=> ((0,0,0),false)) else ((0,0,0),false)
theorem getA_yes {n:Nat} {t:Tm} (h:S.l[n]? =some t):getA S n=(t,true):=by
 unfold getA
 rw [if_pos (by omega),Int.toNat_natCast,h]
theorem getA_no {n:Int} (h:hasT S.l n 0=false):getA S n=((0,0,0),false):=by
 unfold getA
 split
 ·rename_i h0
  split
  ·rename_i t ht
   obtain ⟨a,rfl⟩:=Int.eq_ofNat_of_zero_le h0
   rw [Int.toNat_natCast] at ht
   rw [hasT_iff.2 ⟨a,rfl,t,ht,.inl rfl⟩] at h
   cases h
  ·rfl
 ·rfl
theorem tGet_any (h:StA B w p F S) (n:Int):Calls Try.prog 51 #[.pointer (some ⟨p,0,none⟩),.int .i64 n] w fun e w'=> e=.returned (.tuple #[tmV (getA S n).1,.bool (getA S n).2])∧Below w.heap.size w w':=by
 obtain ⟨mb,mt,vl,vb,tv,h1,h2,h3⟩:=h
 have H:=Lib.hid h1
 obtain ⟨G,hG⟩:∃x,x=getA S n:=⟨_,rfl⟩
 rw [←hG]
 have HG:=Lib.hid hG
 clear h1 h2 h3 hG
 go_enter Try.func51,Try.ntmps51
 go_upto_region 1 with (fail)
 refine wp_world (fun w1=> Arr .i64 w1 w.heap.size 3 (fun _=> 0)∧Below w.heap.size w w1) ⟨Arr.newAt rfl rfl,(Below.refl _ _).alloc (Nat.le_refl _) _⟩ ?_
 rintro w1 ⟨hA1,bb1⟩
 have HA1:=Lib.hid hA1
 have B1:=Lib.hid bb1
 have H1:=Lib.hid (H.out.below bb1)
 clear hA1 bb1
 go_wp2_with fail
 refine (tIs_any H1.out).mono ?_
 rintro e w1' ⟨rfl,rfl⟩
 go_wp2_with fail
 refine (tHas_any H1.out n 0).mono ?_
 rintro e w2 ⟨rfl,rfl⟩
 cases hm:hasT S.l n 0 with
 | false=>
  have E1:Hid (G=((0,0,0),false)):=Lib.hid (HG.out.trans (getA_no hm))
  obtain ⟨t1,ht1⟩:=HA1.out
  have HT1:=Lib.hid ht1
  clear hm ht1
  go_wp2_with (refine store_rowV rfl 78 _ _ rfl w.heap.size 3 (fun i=> .int .i64 (tf (0,0,0) i)) _ t1 HT1.out rfl Try.sizeTm rfl rfl (fun i _=> rfl) ?_)
  have HA2:Hid (Arr .i64 (w2.setRow w.heap.size (rowV 3 fun i=> .int .i64 (tf (0,0,0) i))) w.heap.size 3 (tf (0,0,0))):=Lib.hid (HA1.out.setRow 3 (tf (0,0,0)))
  have B2:Hid (Below w.heap.size w (w2.setRow w.heap.size (rowV 3 fun i=> .int .i64 (tf (0,0,0) i)))):=Lib.hid (below_setRow' B1.out (Nat.le_refl _) _)
  rw [E1.out]
  refine bodyPost_ret (results_str2 rfl _ _ .i64 w.heap.size 3 _ rfl HA2.out Try.underlying78 rfl Try.sizeTm) rfl ?_
  exact ⟨rfl,B2.out⟩
 | true=>
  obtain ⟨a,rfl,ha,_⟩:=hasT_lt hm
  obtain ⟨t,ht⟩:∃t,S.l[a]? =some t:=⟨_,List.getElem?_eq_getElem ha⟩
  have E1:Hid (G=(t,true)):=Lib.hid (HG.out.trans (getA_yes ht))
  obtain ⟨t1,ht1⟩:=HA1.out
  have HT1:=Lib.hid ht1
  have c0:=H1.out.c0
  obtain ⟨g,cap,ev,_,_,_,hc⟩:=H1.out.ls.form (by omega)
  have HC:Hid (∀i,i<3→w2.cell? ⟨g,a * 3+i,none⟩=some (.int .i64 (tf t i))):=Lib.hid fun i hi=> (hc a ha i hi).trans (congrArg some (tmv_at ht))
  rw [ev] at c0
  have h9:(a:Int)<(S.l.length:Int):=by omega
  clear hm ht1 ha ht hc ev
  go_wp2_with (first
   | (refine load_row (y:=fun i=> .int .i64 (tf t i)) rfl rfl rfl Try.underlying78 rfl Try.sizeTm HC.out ?_)
   | (refine store_rowV rfl 78 _ _ rfl w.heap.size 3 (fun i=> .int .i64 (tf t i)) _ t1 HT1.out rfl Try.sizeTm rfl rfl (fun i _=> rfl) ?_))
  have HA2:Hid (Arr .i64 (w2.setRow w.heap.size (rowV 3 fun i=> .int .i64 (tf t i))) w.heap.size 3 (tf t)):=Lib.hid (HA1.out.setRow 3 (tf t))
  have B2:Hid (Below w.heap.size w (w2.setRow w.heap.size (rowV 3 fun i=> .int .i64 (tf t i)))):=Lib.hid (below_setRow' B1.out (Nat.le_refl _) _)
  rw [E1.out]
  refine bodyPost_ret (results_str2 rfl _ _ .i64 w.heap.size 3 _ rfl HA2.out Try.underlying78 rfl Try.sizeTm) rfl ?_
  exact ⟨rfl,B2.out⟩
end
end Go.Proofs.Ytpcjekgfnfjbpaa
namespace Go.Bas
open Go.RowKit
theorem Rd.chgY {F:Nat→Prop} {w w':World} {k:IntKind} {v:Value} {n:Nat} {f:Nat→Int} (h:Rd k w v n f) (hg:Chg F w w') (hne:0<n→∀b,v.ownBlock=some b→¬ F b):Rd k w' v n f:=by
 obtain ⟨a,c,rfl,h1,h2,h3,h4⟩:=h
 refine ⟨a,c,rfl,h1,h2,h3,fun hn=> ?_⟩
 obtain ⟨b,o,rfl,hlt,hc⟩:=h4 hn
 have:=hg.size
 exact ⟨b,o,rfl,by omega,fun i hi=> (hg.cell (p:=⟨b,o+i,none⟩) hlt (hne hn b rfl)).trans (hc i hi)⟩
end Go.Bas
namespace Go.Proofs.Ytpcjekgfnfjbpaa
open Go.RowKit Go.Bas Go.ChangeShapes Go.Maps
attribute [local go_sem ↓] Go.wp_at_zero Go.wp_at_succ
section
variable {B : Nat} {w w' : World} {p mb mt : Nat} {vl vb : Value} {tv : Nat → Value} {S : TS}
end
end Go.Proofs.Ytpcjekgfnfjbpaa
