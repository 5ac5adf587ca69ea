/-
  Part 18 of the texts that the proof of DeduceMore rests on, one after the other. Conditions: named in each theorem.
-/
import Derived.Test.YtlmdgmgbijfaoaaPkDeduceMore13
import Derived.Test.YtlmdgmgbijfaoaaPkDeduceMore1
import Derived.Test.YtlmdgmgbijfaoaaPkDeduceMore2
import Derived.Test.YtlmdgmgbijfaoaaPkDeduceMore11
import Derived.Test.YtlmdgmgbijfaoaaPkDeduceMore5
import Derived.Test.YtlmdgmgbijfaoaaPkDeduceMore3
import Derived.Test.YtlmdgmgbijfaoaaPkDeduceMore4
import Derived.Test.YtlmdgmgbijfaoaaPkDeduceMore6
import Derived.Test.YtlmdgmgbijfaoaaPkDeduceMore7
import Derived.Test.YtlmdgmgbijfaoaaPkDeduceMore10
import Derived.Test.YtlmdgmgbijfaoaaPkDeduceMore9
import Derived.Test.YtlmdgmgbijfaoaaPkDeduceMore8
import Derived.Test.YtlmdgmgbijfaoaaPkDeduceMore12
import Derived.Test.YtlmdgmgbijfaoaaPkDeduceMore17
import Derived.BigFrame
import Derived.BigQuiet
import Derived.ChangeKeysEq
import Derived.ChangeMaps5
import Derived.ChangeOld
import Derived.Deep.Cut
import Derived.Deep.DrawnRows
import Derived.Deep.MidRow
import Derived.Deep.QuietTactic
import Derived.Deep.RegionHeld3
import Derived.Deep.RegionLaw
import Derived.Deep.Slices
import Derived.Deep.Strs
import Derived.Deep.Upon
import Derived.Deep.WholeRow
import Derived.DeepKeys4
import Derived.Great.BuildSlice
import Derived.Great.Walk
import Derived.Laws.BytesArg
import Derived.Laws.CopyOwn
import Derived.Laws.IdiomCopy
import Derived.Laws.Strings
import Derived.Laws.StructEq
import Derived.Lib.BufferRead
import Derived.Lib.Hide
import Derived.MapViews
import Derived.Maps.AppendAt
import Derived.Maps.OwnSet
import Derived.Maps.Range
import Derived.Maps.Views
import Derived.OpenShut
import Derived.Orders
import Derived.ProofKit
import Derived.ShutString
import Derived.StillTactics
import Derived.Test.YtlmdgmgbijfaoaaArr
import Derived.Test.YtlmdgmgbijfaoaaFlow
import Derived.Test.YtlmdgmgbijfaoaaKit
import Derived.Test.YtlmdgmgbijfaoaaOpen
import Derived.Test.YtlmdgmgbijfaoaaOpenT
import Derived.Test.YtlmdgmgbijfaoaaRows
import Derived.Test.YtlmdgmgbijfaoaaTxt
import Derived.WalkKit
import Derived.WalkLawsBesides
import Derived.WalkSmall
import Derived.WalkSpells
set_option linter.unusedVariables false
set_option linter.unusedSimpArgs false
set_option maxRecDepth 100000
set_option maxHeartbeats 1600000
namespace Go.Proofs.Ytlmdgmgbijfaoaa
open Go.RowKit Go.Bas Go.ChangeShapes Go.Maps
attribute [local go_sem ↓] Go.wp_at_zero Go.wp_at_succ
section
variable {B : Nat} {w w' : World} {p mb mt : Nat} {vl vb : Value} {tv : Nat → Value} {S : TS}
theorem tDraw_any {F:Nat→Prop} (h:StA B w p F S) (hB:B≤w.heap.size) (s:Int) (hl:S.l.length≤1000):
  Calls Try.prog 63 #[.pointer (some ⟨p,0,none⟩),.int .i64 s] w fun e w'=> e=.returned (.tuple #[.int .i64 (drawA S s).1,.int .i64 (drawA S s).2])∧∃F',StA B w' p F' (S.draw s)∧Chg F w w'∧∀b,F' b→F b∨w.heap.size≤b:=by
 obtain ⟨mb,mt,vl,vb,tv,h1,h2,h3⟩:=h
 have H:=Lib.hid h1
 have HOK:=Lib.hid h2
 have HFF:=Lib.hid h3
 have HBB:=Lib.hid hB
 have HL:=Lib.hid hl
 obtain ⟨PA,hPA⟩:∃x,x=drawA S s:=⟨_,rfl⟩
 obtain ⟨SP,hSP⟩:∃x,x=S.draw s:=⟨_,rfl⟩
 rw [←hPA,←hSP]
 have HPA:=Lib.hid hPA
 have HSP:=Lib.hid hSP
 clear h1 h2 h3 hB hl hPA hSP
 go_enter Try.func63,Try.ntmps63
 go_wp2_with fail
 refine (tIs_any H.out).mono ?_
 rintro e w1' ⟨rfl,rfl⟩
 go_wp2_with fail
 refine (tSort_any s _).mono ?_
 rintro e w1 ⟨rfl,rfl⟩
 cases hm:isSort s with
 | false=>
  have E1:Hid (PA=(0,2)):=Lib.hid (by rw [HPA.out];unfold drawA;rw [if_neg (by rw [hm];decide)])
  have E2:Hid (SP=S):=Lib.hid (by rw [HSP.out];unfold TS.draw;rw [if_neg (fun h=> by rw [hm] at h;cases h.1)])
  clear hm
  go_wp2
  go_ret2
  rw [E1.out,E2.out]
  exact ⟨rfl,F,⟨mb,mt,vl,vb,tv,H.out,HOK.out,HFF.out⟩,.refl _ _,fun b hb=> .inl hb⟩
 | true=>
  have hs:=hm
  simp only [isSort,Bool.and_eq_true,decide_eq_true_eq] at hs
  obtain ⟨k,rfl⟩:=Int.eq_ofNat_of_zero_le (show 0≤s by omega)
  have hk5:k<5:=by omega
  have hk9:(k:Int)<5:=by omega
  have z0:=H.out.nx k hk5
  have HTOP:=Lib.hid (nxt_top S.l k)
  have HNN:=Lib.hid (nxt_nonneg S.l k)
  by_cases hx:nxt S.l k≤topT
  ·have E1:Hid (PA=((S.l.length:Int),0)):=Lib.hid (by rw [HPA.out];unfold drawA;rw [if_pos hm,if_pos hx])
   have E2:Hid (SP=S.add (1,(k:Int),nxt S.l k)):=Lib.hid (by rw [HSP.out];unfold TS.draw;rw [if_pos ⟨hm,hx⟩])
   have HNEW:=Lib.hid (nxt_new hx)
   have OK2:Hid ((S.add (1,(k:Int),nxt S.l k)).Ok):=Lib.hid (HOK.out.add HNEW.out (.inl ⟨rfl,hs,HNN.out⟩))
   have HS:=Lib.hid hs
   have hgt:¬ (4611686018427387904:Int)<nxt S.l k:=by unfold topT at hx;omega
   obtain ⟨X,hX⟩:∃X,X=nxt S.l k:=⟨_,rfl⟩
   have HXT:Hid (0≤X∧X≤4611686018427387904):=Lib.hid (by rw [hX];exact ⟨HNN.out,by unfold topT at hx;exact hx⟩)
   rw [←hX] at z0 E2 HNEW OK2 hgt
   clear hm hs hx hX
   go_wp2_with fail
   refine (tAdd_any H.out HBB.out (1,(k:Int),X) ⟨⟨by simp,by simp⟩,⟨by simp only;omega,by simp only;omega⟩,⟨by simp only;have:=HXT.out;omega,by simp only;have:=HXT.out;omega⟩⟩ HNEW.out (fun _=> HS.out) HL.out).mono ?_
   rintro e w4 ⟨rfl,vl',h4,hc4,hf4⟩
   have S4:Hid (StA B w4 p (TF p mb mt vl' vb S.tx.length tv) (S.add (1,(k:Int),X))):=Lib.hid ⟨mb,mt,vl',vb,tv,h4,OK2.out,fun b=> Iff.rfl⟩
   have C4:Hid (Chg F w1 w4):=Lib.hid (hc4.mono (G:=F) fun b _ hb=> (HFF.out b).2 (by
    rcases hb with h | h | h
    ·exact .inl h
    ·exact .inr (.inl h)
    ·exact .inr (.inr (.inr (.inl h)))))
   have F4:Hid (∀b,TF p mb mt vl' vb S.tx.length tv b→F b∨w1.heap.size≤b):=Lib.hid fun b hb=> (TF.add (N:=w1.heap.size) hf4 b hb).imp (HFF.out b).2 id
   clear h4 hc4 hf4
   go_wp2
   go_ret2
   rw [E1.out,E2.out]
   exact ⟨rfl,_,S4.out,C4.out,F4.out⟩
  ·have E1:Hid (PA=(0,3)):=Lib.hid (by rw [HPA.out];unfold drawA;rw [if_pos hm,if_neg hx])
   have E2:Hid (SP=S):=Lib.hid (by rw [HSP.out];unfold TS.draw;rw [if_neg (fun h=> hx h.2)])
   have hgt:(4611686018427387904:Int)<nxt S.l k:=by unfold topT at hx;omega
   clear hm hs hx
   go_wp2
   go_ret2
   rw [E1.out,E2.out]
   exact ⟨rfl,F,⟨mb,mt,vl,vb,tv,H.out,HOK.out,HFF.out⟩,.refl _ _,fun b hb=> .inl hb⟩
end
section
variable {B : Nat} {w w' : World} {p : Nat} {F : Nat → Prop} {S : TS}
end
end Go.Proofs.Ytlmdgmgbijfaoaa
namespace Go.Bas
open Go.RowKit
theorem OwM.one1 {e:TypeId} {w:World} {v:Value} {n j:Nat} {q:Nat→Nat→Value} (h:OwM e 1 w v n q) (hj:j<n):∃g cap,v=.slice (some ⟨g,0,none⟩) n cap∧g<w.heap.size∧n≤cap∧cap≤9223372036854775807∧w.cell? ⟨g,j,none⟩=some (q j 0)∧w.frozen? ⟨g,j,none⟩=false:=by
 obtain ⟨g,cap,ev,hr,h1,h2,hc⟩:=h.form (by omega)
 have:=hc j hj 0 (by decide)
 rw [Nat.mul_one,Nat.add_zero] at this
 exact ⟨g,cap,ev,hr.lt,h1,h2,this,hr.free j⟩
abbrev bv (h:Nat→Bool):Nat→Nat→Value:=fun j _=> .bool (h j)
def knB (n:Nat) (h:Nat→Bool) (x:Int):Bool:=decide (0≤x) && decide (x<n) && h x.toNat
theorem knB_in {n j:Nat} {h:Nat→Bool} (hj:j<n):knB n h (j:Int)=h j:=by
 unfold knB
 rw [decide_eq_true (by omega),decide_eq_true (by omega),Int.toNat_natCast]
 rfl
theorem knB_out {n:Nat} {h:Nat→Bool} {x:Int} (hx:¬ (0≤x∧x<n)):knB n h x=false:=by
 unfold knB
 by_cases h1:0≤x
 ·rw [decide_eq_false (show ¬ x<n from fun h2=> hx ⟨h1,h2⟩),Bool.and_false,Bool.false_and]
 ·rw [decide_eq_false h1,Bool.false_and,Bool.false_and]
end Go.Bas
namespace Go.Proofs.Ytlmdgmgbijfaoaa
open Go.RowKit Go.Bas Go.ChangeShapes Go.Maps
attribute [local go_sem ↓] Go.wp_at_zero Go.wp_at_succ
structure Knm (w:World) (p:Nat) (vl vh vm:Value) (l:List Tm) (h m:Nat→Bool):Prop where
 row:RowB w p 179 4
 c0:w.cell? ⟨p,0,none⟩=some vl
 c1:w.cell? ⟨p,1,none⟩=some vh
 c2:w.cell? ⟨p,2,none⟩=some vm
 c3:w.cell? ⟨p,3,none⟩=some (.bool true)
 ls:OwM 97 3 w vl l.length (tmv l)
 hs:OwM 4 1 w vh l.length (bv h)
 ms:OwM 4 1 w vm l.length (bv m)
 ne:∀b,vh.ownBlock=some b→vm.ownBlock≠some b
def KW (vh vm:Value) (b:Nat):Prop:=vh.ownBlock=some b∨vm.ownBlock=some b
section
variable {w w' : World} {p : Nat} {vl vh vm : Value} {l : List Tm} {h m : Nat → Bool}
theorem Knm.below (k:Knm w p vl vh vm l h m) (hb:Below w.heap.size w w'):Knm w' p vl vh vm l h m:=by
 have hl:=k.row.lt
 exact ⟨k.row.heap (hb.block p hl),(hb.cell (p:=⟨p,0,none⟩) hl).trans k.c0,(hb.cell (p:=⟨p,1,none⟩) hl).trans k.c1,(hb.cell (p:=⟨p,2,none⟩) hl).trans k.c2,(hb.cell (p:=⟨p,3,none⟩) hl).trans k.c3,k.ls.below hb,k.hs.below hb,k.ms.below hb,k.ne⟩
theorem Knm.nP (k:Knm w p vl vh vm l h m):¬ KW vh vm p:=fun hb=> hb.elim (fun hb=> k.hs.heap_ne k.row (by decide) hb) fun hb=> k.ms.heap_ne k.row (by decide) hb
theorem Knm.nL (k:Knm w p vl vh vm l h m):∀b,vl.ownBlock=some b→¬ KW vh vm b:=fun b hb hw=> by
 have key:∀v x,OwM 4 1 w v l.length (bv x)→v.ownBlock≠some b:=fun v x hv hvb=> by
  rcases k.ls with ⟨rfl,_⟩ | ⟨g,cap,rfl,hr,_⟩
  ·cases hb
  ·cases hb
   rcases hv with ⟨rfl,_⟩ | ⟨g2,cap2,rfl,hr2,_⟩
   ·cases hvb
   ·cases hvb
    obtain ⟨c1,h1,_⟩:=hr
    obtain ⟨c2,h2,_⟩:=hr2
    rw [h1] at h2
    cases h2
 exact hw.elim (key _ _ k.hs) (key _ _ k.ms)
theorem Knm.ltW (k:Knm w p vl vh vm l h m) {b:Nat} (hb:KW vh vm b):b<w.heap.size:=hb.elim (k.hs.lt b) (k.ms.lt b)
theorem kAt_any (k:Knm w p vl vh vm l h m) (n:Int):Calls Try.prog 113 #[.pointer (some ⟨p,0,none⟩),.int .i64 n] w fun e w'=> e=.returned (.bool (decide (0≤n) && decide (n<l.length)))∧w'=w:=by
 obtain ⟨R,hR⟩:∃R,R=(decide (0≤n) && decide (n<l.length)):=⟨_,rfl⟩
 rw [←hR]
 have HR:=Lib.hid hR
 have c0:=k.c0
 have c3:=k.c3
 obtain ⟨al,cl,rfl,_⟩:=k.ls.slice
 clear k hR
 by_cases h1:0≤n
 ·by_cases h2:n<(l.length:Int)
  ·have HF:Hid (R=true):=Lib.hid (by rw [HR.out,decide_eq_true h1,decide_eq_true h2];rfl)
   go_enter Try.func113,Try.ntmps113
   go_wp2
   go_ret
   rw [HF.out]
   exact ⟨rfl,rfl⟩
  ·have HF:Hid (R=false):=Lib.hid (by rw [HR.out,decide_eq_false h2,Bool.and_false])
   go_enter Try.func113,Try.ntmps113
   go_wp2
   go_ret
   rw [HF.out]
   exact ⟨rfl,rfl⟩
 ·have HF:Hid (R=false):=Lib.hid (by rw [HR.out,decide_eq_false h1,Bool.false_and])
  go_enter Try.func113,Try.ntmps113
  go_wp2
  go_ret
  rw [HF.out]
  exact ⟨rfl,rfl⟩
theorem kAt_nil (w:World) (n:Int):Calls Try.prog 113 #[.pointer none,.int .i64 n] w fun e w'=> e=.returned (.bool false)∧w'=w:=by
 go_enter Try.func113,Try.ntmps113
 go_wp2
 go_ret
 exact ⟨rfl,rfl⟩
theorem kHas_any (k:Knm w p vl vh vm l h m) (n:Int):Calls Try.prog 71 #[.pointer (some ⟨p,0,none⟩),.int .i64 n] w fun e w'=> e=.returned (.bool (knB l.length h n))∧w'=w:=by
 have K:=Lib.hid k
 by_cases hn:0≤n∧n<l.length
 ·obtain ⟨j,rfl⟩:=Int.eq_ofNat_of_zero_le hn.1
  have hj:j<l.length:=by omega
  rw [knB_in hj]
  have c1:=k.c1
  obtain ⟨g,cap,ev,hg,_,_,z0,_⟩:=k.hs.one1 hj
  rw [ev] at c1
  have h2:(j:Int)<(l.length:Int):=by omega
  have HD:Hid ((decide (0≤(j:Int)) && decide ((j:Int)<l.length))=true):=Lib.hid (by rw [decide_eq_true h2,decide_eq_true (by omega)];rfl)
  clear k hn ev
  go_enter Try.func71,Try.ntmps71
  go_wp2_with fail
  refine (kAt_any K.out (j:Int)).mono ?_
  rw [HD.out]
  rintro e w' ⟨rfl,rfl⟩
  go_wp2
  go_ret
  exact ⟨rfl,rfl⟩
 ·rw [knB_out hn]
  have HD:Hid ((decide (0≤n) && decide (n<l.length))=false):=Lib.hid (by
   rw [Bool.and_eq_false_iff,decide_eq_false_iff_not,decide_eq_false_iff_not]
   by_cases h1:0≤n
   ·exact .inr fun h2=> hn ⟨h1,h2⟩
   ·exact .inl h1)
  clear k hn
  go_enter Try.func71,Try.ntmps71
  go_wp2_with fail
  refine (kAt_any K.out n).mono ?_
  rw [HD.out]
  rintro e w' ⟨rfl,rfl⟩
  go_wp2
  go_ret
  exact ⟨rfl,rfl⟩
theorem kHas_nil (w:World) (n:Int):Calls Try.prog 71 #[.pointer none,.int .i64 n] w fun e w'=> e=.returned (.bool false)∧w'=w:=by
 go_enter Try.func71,Try.ntmps71
 go_wp2_with fail
 refine (kAt_nil w n).mono ?_
 rintro e w' ⟨rfl,rfl⟩
 go_wp2
 go_ret
 exact ⟨rfl,rfl⟩
theorem kCan_any (k:Knm w p vl vh vm l h m) (n:Int):Calls Try.prog 72 #[.pointer (some ⟨p,0,none⟩),.int .i64 n] w fun e w'=> e=.returned (.bool (knB l.length m n))∧w'=w:=by
 have K:=Lib.hid k
 by_cases hn:0≤n∧n<l.length
 ·obtain ⟨j,rfl⟩:=Int.eq_ofNat_of_zero_le hn.1
  have hj:j<l.length:=by omega
  rw [knB_in hj]
  have c2:=k.c2
  obtain ⟨g,cap,ev,hg,_,_,z0,_⟩:=k.ms.one1 hj
  rw [ev] at c2
  have h2:(j:Int)<(l.length:Int):=by omega
  have HD:Hid ((decide (0≤(j:Int)) && decide ((j:Int)<l.length))=true):=Lib.hid (by rw [decide_eq_true h2,decide_eq_true (by omega)];rfl)
  clear k hn ev
  go_enter Try.func72,Try.ntmps72
  go_wp2_with fail
  refine (kAt_any K.out (j:Int)).mono ?_
  rw [HD.out]
  rintro e w' ⟨rfl,rfl⟩
  go_wp2
  go_ret
  exact ⟨rfl,rfl⟩
 ·rw [knB_out hn]
  have HD:Hid ((decide (0≤n) && decide (n<l.length))=false):=Lib.hid (by
   rw [Bool.and_eq_false_iff,decide_eq_false_iff_not,decide_eq_false_iff_not]
   by_cases h1:0≤n
   ·exact .inr fun h2=> hn ⟨h1,h2⟩
   ·exact .inl h1)
  clear k hn
  go_enter Try.func72,Try.ntmps72
  go_wp2_with fail
  refine (kAt_any K.out n).mono ?_
  rw [HD.out]
  rintro e w' ⟨rfl,rfl⟩
  go_wp2
  go_ret
  exact ⟨rfl,rfl⟩
theorem kCan_nil (w:World) (n:Int):Calls Try.prog 72 #[.pointer none,.int .i64 n] w fun e w'=> e=.returned (.bool false)∧w'=w:=by
 go_enter Try.func72,Try.ntmps72
 go_wp2_with fail
 refine (kAt_nil w n).mono ?_
 rintro e w' ⟨rfl,rfl⟩
 go_wp2
 go_ret
 exact ⟨rfl,rfl⟩
end
end Go.Proofs.Ytlmdgmgbijfaoaa
namespace Go.Proofs.Ytlmdgmgbijfaoaa
open Go.RowKit Go.Bas Go.ChangeShapes Go.Maps
attribute [local go_sem ↓] Go.wp_at_zero Go.wp_at_succ
section
variable {w w' : World} {p : Nat} {vl vh vm : Value} {S : TS} {h m : Nat → Bool}
theorem kcan_any (k:Knm w p vl vh vm S.l h m) (hok:S.Ok) (hlen:S.l.length≤1000) (n:Nat) (hn:n<S.l.length):Calls Try.prog 119 #[.pointer (some ⟨p,0,none⟩),.int .i64 (n:Int)] w fun e w'=> e=.returned (.bool (canB S.l h m n))∧Below w.heap.size w w':=by
 obtain ⟨R,hR⟩:∃R,R=canB S.l h m n:=⟨_,rfl⟩
 rw [←hR]
 have HR:=Lib.hid hR
 have c0:=k.c0
 obtain ⟨t,ht⟩:∃t,S.l[n]? =some t:=⟨_,List.getElem?_eq_getElem hn⟩
 obtain ⟨g,cap,ev,_,_,_,hc⟩:=k.ls.form (by omega)
 have HC:Hid (∀i,i<3→w.cell? ⟨g,n * 3+i,none⟩=some (.int .i64 (tf t i))):=Lib.hid fun i hi=> (hc n hn i hi).trans (congrArg some (tmv_at ht))
 rw [ev] at c0
 have K:=Lib.hid k
 have HP:=Lib.hid (parts hok hn)
 have HT:=Lib.hid (tmD_eq ht)
 have HN:=Lib.hid hn
 have hn9:(n:Int)<(S.l.length:Int):=by omega
 have hn8:(n:Int)<1000000:=by omega
 clear k hR hc ev ht hn hlen
 go_enter Try.func119,Try.ntmps119
 go_upto_region 2 with (first | (refine load_row (y:=fun i=> .int .i64 (tf t i)) rfl rfl rfl Try.underlying97 rfl Try.sizeTm HC.out ?_) | (refine store_rowV rfl 97 _ _ rfl w.heap.size 3 (fun i=> .int .i64 (tf t i)) _ 97 (heap_alloc_new _ _) rfl Try.sizeTm rfl rfl (fun i _=> rfl) ?_))
 have hN0:Arr .i64 (w.alloc (.cells #[.int .i64 0,.int .i64 0,.int .i64 0] 97)) w.heap.size 3 (fun _=> 0):=Arr.newAt rfl rfl
 refine wp_world (fun w1=> Arr .i64 w1 w.heap.size 3 (tf t)∧Below w.heap.size w w1) ⟨hN0.setRow 3 (tf t),below_setRow' ((Below.refl _ _).alloc (Nat.le_refl _) _) (Nat.le_refl _) _⟩ ?_
 rintro w1 ⟨hA1,bb1⟩
 obtain ⟨b5,hb5⟩:∃b,b=w.heap.size:=⟨_,rfl⟩
 rw [←hb5] at hA1 ⊢
 have B1:=Lib.hid bb1
 have K1:=Lib.hid (K.out.below bb1)
 have HA:=Lib.hid hA1
 clear hN0 hA1 bb1 c0 hb5
 obtain ⟨kd,A,Bq⟩:=t
 have ck:w1.cell? ⟨b5,0,none⟩=some (.int .i64 kd):=HA.out.cell 0 (by decide)
 have c1:=K1.out.c1
 obtain ⟨gh,ch,eh,_,_,_,zh,_⟩:=K1.out.hs.one1 HN.out
 rw [eh] at c1
 have EH:=Lib.hid eh
 clear eh
 obtain ⟨p1,p2,p3,p4⟩:=HP.out
 rw [HT.out] at p1 p2 p3 p4
 simp only at p1 p2 p3 p4
 by_cases k9:kd=9
 ·subst k9
  have HF:Hid (R=true):=Lib.hid (by rw [HR.out];unfold canB;rw [HT.out];rfl)
  clear p1 p2 p3 p4
  go_wp2
  go_ret
  rw [HF.out]
  exact ⟨rfl,B1.out⟩
 by_cases k2:kd=2∨kd=3∨kd=6∨kd=7∨kd=10
 ·obtain ⟨a,rfl,ha⟩:=p1 (by omega)
  have HF:Hid (R=(h n || m a)):=Lib.hid (by rw [HR.out];unfold canB;rw [HT.out];simp only;rw [if_neg (by omega),if_pos k2,Int.toNat_natCast])
  have cA:w1.cell? ⟨b5,1,none⟩=some (.int .i64 (a:Int)):=HA.out.cell 1 (by decide)
  have hal:a<S.l.length:=by have:=HN.out;omega
  have c2:=K1.out.c2
  obtain ⟨gm,cm,em,_,_,_,zm,_⟩:=K1.out.ms.one1 hal
  rw [em] at c2
  have ha9:(a:Int)<(S.l.length:Int):=by omega
  have ha8:(a:Int)<1000000:=by omega
  clear p1 p2 p3 p4 k9 em
  cases hh:h n with
  | true=>
   rw [hh,Bool.true_or] at HF
   simp only [bv,hh] at zh
   rcases k2 with rfl | rfl | rfl | rfl | rfl
   all_goals go_upto_region 10 with (fail)
   all_goals go_quiet (fail)
   all_goals go_wp2
   all_goals go_ret
   all_goals rw [HF.out]
   all_goals exact ⟨rfl,Go.Bas.below_drewN B1.out _⟩
  | false=>
   rw [hh,Bool.false_or] at HF
   simp only [bv,hh] at zh
   simp only [bv] at zm
   rcases k2 with rfl | rfl | rfl | rfl | rfl
   all_goals go_upto_region 10 with (fail)
   all_goals go_quiet (fail)
   all_goals go_wp2
   all_goals go_ret
   all_goals rw [HF.out]
   all_goals exact ⟨rfl,Go.Bas.below_drewN B1.out _⟩
 by_cases k4:kd=4∨kd=5∨kd=8
 ·obtain ⟨a,rfl,ha⟩:=p1 (by omega)
  obtain ⟨b,rfl,hb⟩:=p2 (by omega)
  have HF:Hid (R=(h n || (m a && m b))):=Lib.hid (by rw [HR.out];unfold canB;rw [HT.out];simp only;rw [if_neg (by omega),if_neg (by omega),if_pos k4,Int.toNat_natCast,Int.toNat_natCast])
  have cA:w1.cell? ⟨b5,1,none⟩=some (.int .i64 (a:Int)):=HA.out.cell 1 (by decide)
  have cB:w1.cell? ⟨b5,2,none⟩=some (.int .i64 (b:Int)):=HA.out.cell 2 (by decide)
  have hal:a<S.l.length:=by have:=HN.out;omega
  have hbl:b<S.l.length:=by have:=HN.out;omega
  have c2:=K1.out.c2
  obtain ⟨gm,cm,em,_,_,_,zm,_⟩:=K1.out.ms.one1 hal
  obtain ⟨gm2,cm2,em2,_,_,_,zm2,_⟩:=K1.out.ms.one1 hbl
  obtain ⟨rfl,rfl⟩:gm=gm2∧cm=cm2:=by
   have:=em.symm.trans em2
   cases this
   exact ⟨rfl,rfl⟩
  rw [em] at c2
  have ha9:(a:Int)<(S.l.length:Int):=by omega
  have ha8:(a:Int)<1000000:=by omega
  have hb9:(b:Int)<(S.l.length:Int):=by omega
  have hb8:(b:Int)<1000000:=by omega
  clear p1 p2 p3 p4 k9 k2 em em2
  cases hh:h n with
  | true=>
   rw [hh,Bool.true_or] at HF
   simp only [bv,hh] at zh
   rcases k4 with rfl | rfl | rfl
   all_goals go_upto_region 14 with (fail)
   all_goals go_quiet (fail)
   all_goals go_wp2
   all_goals go_ret
   all_goals rw [HF.out]
   all_goals exact ⟨rfl,Go.Bas.below_drewN B1.out _⟩
  | false=>
   rw [hh,Bool.false_or] at HF
   simp only [bv,hh] at zh
   cases hma:m a with
   | true=>
    rw [hma,Bool.true_and] at HF
    simp only [bv,hma] at zm
    simp only [bv] at zm2
    rcases k4 with rfl | rfl | rfl
    all_goals go_upto_region 14 with (fail)
    all_goals go_quiet (fail)
    all_goals go_wp2
    all_goals go_ret
    all_goals rw [HF.out]
    all_goals exact ⟨rfl,Go.Bas.below_drewN B1.out _⟩
   | false=>
    rw [hma,Bool.false_and] at HF
    simp only [bv,hma] at zm
    rcases k4 with rfl | rfl | rfl
    all_goals go_upto_region 14 with (fail)
    all_goals go_quiet (fail)
    all_goals go_wp2
    all_goals go_ret
    all_goals rw [HF.out]
    all_goals exact ⟨rfl,Go.Bas.below_drewN B1.out _⟩
 ·have HF:Hid (R=h n):=Lib.hid (by rw [HR.out];unfold canB;rw [HT.out];simp only;rw [if_neg (by omega),if_neg (by omega),if_neg (by omega)])
  obtain rfl:kd=1:=by omega
  simp only [bv] at zh
  clear p1 p2 p3 p4 k9 k2 k4
  go_wp2
  go_ret
  rw [HF.out]
  exact ⟨rfl,B1.out⟩
def opnA (l:List Tm) (m:Nat→Bool) (n:Nat):Int × Bool:=if (tmD l n).1=4∨(tmD l n).1=5∨(tmD l n).1=8 then ((inn l n:Int),opnB l m n) else (0,false)
theorem opnA_4 {l:List Tm} {m:Nat→Bool} {n a b:Nat} (ht:tmD l n=(4,(a:Int),(b:Int))):opnA l m n=((b:Int),m (tmD l a).2.1.toNat):=by
 unfold opnA inn opnB
 rw [ht]
 simp
theorem opnA_5 {l:List Tm} {m:Nat→Bool} {n a b:Nat} (ht:tmD l n=(5,(a:Int),(b:Int))):opnA l m n=((b:Int),m a):=by
 unfold opnA inn opnB
 rw [ht]
 simp
theorem opnA_8 {l:List Tm} {m:Nat→Bool} {n b:Nat} {A:Int} (ht:tmD l n=(8,A,(b:Int))):opnA l m n=((b:Int),true):=by
 unfold opnA inn opnB
 rw [ht]
 simp
theorem opnA_no {l:List Tm} {m:Nat→Bool} {n:Nat} {k A B:Int} (ht:tmD l n=(k,A,B)) (h4:k≠4) (h5:k≠5) (h8:k≠8):opnA l m n=(0,false):=by
 unfold opnA
 rw [ht]
 simp [h4,h5,h8]
theorem kopened_any (k:Knm w p vl vh vm S.l h m) (hok:S.Ok) (hlen:S.l.length≤1000) (n:Nat) (hn:n<S.l.length):Calls Try.prog 120 #[.pointer (some ⟨p,0,none⟩),.int .i64 (n:Int)] w fun e w'=> e=.returned (.tuple #[.int .i64 (opnA S.l m n).1,.bool (opnA S.l m n).2])∧Below w.heap.size w w':=by
 obtain ⟨R,hR⟩:∃R,R=opnA S.l m n:=⟨_,rfl⟩
 rw [←hR]
 have HR:=Lib.hid hR
 have c0:=k.c0
 obtain ⟨t,ht⟩:∃t,S.l[n]? =some t:=⟨_,List.getElem?_eq_getElem hn⟩
 obtain ⟨g,cap,ev,hrg,_,_,hc⟩:=k.ls.form (by omega)
 have HC:Hid (∀i,i<3→w.cell? ⟨g,n * 3+i,none⟩=some (.int .i64 (tf t i))):=Lib.hid fun i hi=> (hc n hn i hi).trans (congrArg some (tmv_at ht))
 have HCA:Hid (∀j u,S.l[j]? =some u→w.cell? ⟨g,j * 3+1,none⟩=some (.int .i64 u.2.1)):=Lib.hid fun j u hu=> (hc j (List.getElem?_eq_some_iff.1 hu).1 1 (by decide)).trans (congrArg some (tmv_at hu))
 have HG:=Lib.hid hrg.lt
 rw [ev] at c0
 have C0:=Lib.hid c0
 have K:=Lib.hid k
 have HP:=Lib.hid (parts hok hn)
 have HOK:=Lib.hid hok
 have HT:=Lib.hid (tmD_eq ht)
 have HN:=Lib.hid hn
 have HL:=Lib.hid hlen
 have hn9:(n:Int)<(S.l.length:Int):=by omega
 have hn8:(n:Int)<1000000:=by omega
 clear k hR hc ev ht hn hlen hok hrg
 go_enter Try.func120,Try.ntmps120
 go_upto_region 2 with (first | (refine load_row (y:=fun i=> .int .i64 (tf t i)) rfl rfl rfl Try.underlying97 rfl Try.sizeTm HC.out ?_) | (refine store_rowV rfl 97 _ _ rfl w.heap.size 3 (fun i=> .int .i64 (tf t i)) _ 97 (heap_alloc_new _ _) rfl Try.sizeTm rfl rfl (fun i _=> rfl) ?_))
 have hN0:Arr .i64 (w.alloc (.cells #[.int .i64 0,.int .i64 0,.int .i64 0] 97)) w.heap.size 3 (fun _=> 0):=Arr.newAt rfl rfl
 refine wp_world (fun w1=> Arr .i64 w1 w.heap.size 3 (tf t)∧Below w.heap.size w w1) ⟨hN0.setRow 3 (tf t),below_setRow' ((Below.refl _ _).alloc (Nat.le_refl _) _) (Nat.le_refl _) _⟩ ?_
 rintro w1 ⟨hA1,bb1⟩
 obtain ⟨b5,hb5⟩:∃b,b=w.heap.size:=⟨_,rfl⟩
 rw [←hb5] at hA1 ⊢
 have B1:=Lib.hid bb1
 have K1:=Lib.hid (K.out.below bb1)
 have HA:=Lib.hid hA1
 have c01:w1.cell? ⟨p,0,none⟩=some (.slice (some ⟨g,0,none⟩) S.l.length cap):=(bb1.cell (p:=⟨p,0,none⟩) K.out.row.lt).trans c0
 have HCA1:Hid (∀j u,S.l[j]? =some u→w1.cell? ⟨g,j * 3+1,none⟩=some (.int .i64 u.2.1)):=Lib.hid fun j u hu=> (bb1.cell (p:=⟨g,j * 3+1,none⟩) HG.out).trans (HCA.out j u hu)
 clear hN0 hA1 bb1 c0 hb5
 obtain ⟨kd,A,Bq⟩:=t
 have ck:w1.cell? ⟨b5,0,none⟩=some (.int .i64 kd):=HA.out.cell 0 (by decide)
 obtain ⟨p1,p2,p3,p4⟩:=HP.out
 rw [HT.out] at p1 p2 p3 p4
 simp only at p1 p2 p3 p4
 by_cases k4:kd=4
 ·subst k4
  obtain ⟨a,rfl,ha,ha2⟩:=p3 rfl
  obtain ⟨b,rfl,hb⟩:=p2 (.inl rfl)
  have hal:a<S.l.length:=by have:=HN.out;omega
  obtain ⟨q1,_⟩:=parts HOK.out hal
  obtain ⟨a2,ea2,ha3⟩:=q1 (.inl ha2)
  obtain ⟨u,hu⟩:∃u,S.l[a]? =some u:=⟨_,List.getElem?_eq_getElem hal⟩
  have hu2:u.2.1=(a2:Int):=by rw [←tmD_eq hu];exact ea2
  have zu:=HCA1.out a u hu
  rw [hu2] at zu
  have HF:Hid (R=((b:Int),m a2)):=Lib.hid (by rw [HR.out,opnA_4 HT.out,ea2,Int.toNat_natCast])
  have cA:w1.cell? ⟨b5,1,none⟩=some (.int .i64 (a:Int)):=HA.out.cell 1 (by decide)
  have cB:w1.cell? ⟨b5,2,none⟩=some (.int .i64 (b:Int)):=HA.out.cell 2 (by decide)
  have hal2:a2<S.l.length:=by omega
  have c2:=K1.out.c2
  obtain ⟨gm,cm,em,_,_,_,zm,_⟩:=K1.out.ms.one1 hal2
  rw [em] at c2
  simp only [bv] at zm
  have HL2:=HL.out
  have ha9:(a:Int)<(S.l.length:Int):=by omega
  have ha8:(a:Int)<1000000:=by omega
  have hc9:(a2:Int)<(S.l.length:Int):=by omega
  have hc8:(a2:Int)<1000000:=by omega
  clear p1 p2 p3 p4 q1 em ea2 hu2
  go_upto_region 4 with (fail)
  go_quiet (fail)
  go_wp2
  go_ret2
  rw [HF.out]
  exact ⟨rfl,Go.Bas.below_drewN B1.out _⟩
 by_cases k5:kd=5
 ·subst k5
  obtain ⟨a,rfl,ha⟩:=p1 (by omega)
  obtain ⟨b,rfl,hb⟩:=p2 (by omega)
  have hal:a<S.l.length:=by have:=HN.out;omega
  have HF:Hid (R=((b:Int),m a)):=Lib.hid (by rw [HR.out,opnA_5 HT.out])
  have cA:w1.cell? ⟨b5,1,none⟩=some (.int .i64 (a:Int)):=HA.out.cell 1 (by decide)
  have cB:w1.cell? ⟨b5,2,none⟩=some (.int .i64 (b:Int)):=HA.out.cell 2 (by decide)
  have c2:=K1.out.c2
  obtain ⟨gm,cm,em,_,_,_,zm,_⟩:=K1.out.ms.one1 hal
  rw [em] at c2
  simp only [bv] at zm
  have HL2:=HL.out
  have ha9:(a:Int)<(S.l.length:Int):=by omega
  have ha8:(a:Int)<1000000:=by omega
  clear p1 p2 p3 p4 em
  go_upto_region 6 with (fail)
  go_quiet (fail)
  go_wp2
  go_ret2
  rw [HF.out]
  exact ⟨rfl,Go.Bas.below_drewN B1.out _⟩
 by_cases k8:kd=8
 ·subst k8
  obtain ⟨b,rfl,hb⟩:=p2 (by omega)
  have HF:Hid (R=((b:Int),true)):=Lib.hid (by rw [HR.out,opnA_8 HT.out])
  have cB:w1.cell? ⟨b5,2,none⟩=some (.int .i64 (b:Int)):=HA.out.cell 2 (by decide)
  clear p1 p2 p3 p4
  go_wp2
  go_ret2
  rw [HF.out]
  exact ⟨rfl,B1.out⟩
 ·have HF:Hid (R=(0,false)):=Lib.hid (by rw [HR.out,opnA_no HT.out k4 k5 k8])
  have q4:(kd==4)=false:=by simpa using k4
  have q5:(kd==5)=false:=by simpa using k5
  have q8:(kd==8)=false:=by simpa using k8
  clear p1 p2 p3 p4 k4 k5 k8
  go_wp2
  go_ret2
  rw [HF.out]
  exact ⟨rfl,B1.out⟩
end
end Go.Proofs.Ytlmdgmgbijfaoaa
namespace Go.Bas
open Go.RowKit
theorem Rd.chgY {F:Nat→Prop} {w w':World} {k:IntKind} {v:Value} {n:Nat} {f:Nat→Int} (h:Rd k w v n f) (hg:Chg F w w') (hne:0<n→∀b,v.ownBlock=some b→¬ F b):Rd k w' v n f:=by
 obtain ⟨a,c,rfl,h1,h2,h3,h4⟩:=h
 refine ⟨a,c,rfl,h1,h2,h3,fun hn=> ?_⟩
 obtain ⟨b,o,rfl,hlt,hc⟩:=h4 hn
 have:=hg.size
 exact ⟨b,o,rfl,by omega,fun i hi=> (hg.cell (p:=⟨b,o+i,none⟩) hlt (hne hn b rfl)).trans (hc i hi)⟩
end Go.Bas
namespace Go.Proofs.Ytlmdgmgbijfaoaa
open Go.RowKit Go.Bas Go.ChangeShapes Go.Maps
attribute [local go_sem ↓] Go.wp_at_zero Go.wp_at_succ
section
variable {B : Nat} {w w' : World} {p mb mt : Nat} {vl vb : Value} {tv : Nat → Value} {S : TS}
theorem Tst.ofText {b:List Int} {vl' vb':Value} {tv':Nat→Value} (h:Tst B w p mb mt vl vb tv S) (hob:okX b) (hn:b ∉ S.tx) (h9:((9,(S.tx.length:Int),0):Tm) ∉ S.l) (hlen:S.tx.length≤1000000) {nf:Nat→Int} (hp:Tsp B w' p mb mt vl' vb' tv' (S.l++ [(9,(S.tx.length:Int),0)]) (S.l++ [(9,(S.tx.length:Int),0)]) (S.tx++ [b]) (S.tx++ [b]) (txN (S.text b)) nf) (hf:∀k:Nat,k<5→nf k=nxt S.l k):Tst B w' p mb mt vl' vb' tv' (S.text b):=by
 have hS:S.text b=⟨S.l++ [(9,(S.tx.length:Int),0)],S.tx++ [b]⟩:=if_neg hn
 rw [hS] at hp ⊢
 refine ⟨⟨hp.row,hp.c0,hp.c1,hp.c2,hp.c3,fun k hk=> (hp.nx k hk).trans (by rw [hf k hk,nxt_snoc,if_neg (fun h=> by have:=h.1;simp at this)]),hp.ls,hp.am,hp.xm,hp.bs,hp.bt,hp.ne,hp.hp,hp.hb,hp.hm,hp.hl,hp.hv⟩,nodup_snoc h.nd h9,nodup_snoc h.txn hn,fun j hj=> ?_,fun u hu=> ?_,fun u hu=> ?_⟩
 ·have hj:j<(S.tx++ [b]).length:=hj
  rw [List.length_append,List.length_singleton] at hj
  refine List.mem_append.2 ?_
  by_cases h':j<S.tx.length
  ·exact .inl (h.all j h')
  ·exact .inr (by rw [show j=S.tx.length by omega];simp)
 ·rcases List.mem_append.1 hu with hu | hu
  ·exact h.okt u hu
  ·rw [List.mem_singleton.1 hu]
   exact ⟨⟨by simp,by simp⟩,⟨by simp only;omega,by simp only;omega⟩,⟨by simp,by simp⟩⟩
 ·rcases List.mem_append.1 hu with hu | hu
  ·exact h.okx u hu
  ·rw [List.mem_singleton.1 hu];exact hob
theorem txN_new {b:List Int} (h:S.l.Nodup) (hx:S.tx.Nodup) (hn:b ∉ S.tx) (h9:((9,(S.tx.length:Int),0):Tm) ∉ S.l):txN (S.text b) b=S.l.length:=by
 have hS:S.text b=⟨S.l++ [(9,(S.tx.length:Int),0)],S.tx++ [b]⟩:=if_neg hn
 rw [hS]
 unfold txN
 have e1:plc (S.tx++ [b]) b=S.tx.length:=plc_at (nodup_snoc hx hn) (by rw [List.getElem?_append_right (Nat.le_refl _),Nat.sub_self];rfl)
 simp only [e1]
 exact plc_at (nodup_snoc h h9) (by rw [List.getElem?_append_right (Nat.le_refl _),Nat.sub_self];rfl)
theorem txN_old {b y:List Int} (hx:S.tx.Nodup) (hn:b ∉ S.tx) (hy:y ∈ S.tx):txN (S.text b) y=txN (S.add (9,(S.tx.length:Int),0)) y:=by
 have hS:S.text b=⟨S.l++ [(9,(S.tx.length:Int),0)],S.tx++ [b]⟩:=if_neg hn
 rw [hS]
 unfold txN
 simp only [plc_prefix (nodup_snoc hx hn) (List.prefix_append _ _) hy]
 rfl
theorem tText_any {F:Nat→Prop} (h:StA B w p F S) (hB:B≤w.heap.size) (b:List Int) (hob:okX b) (v:Value) (hv:Rd .u8 w v b.length (bf b)) (hvF:0<b.length→∀c,v.ownBlock=some c→¬ F c) (hl:S.l.length≤1000) (hx:S.tx.length≤1000):
  Calls Try.prog 64 #[.pointer (some ⟨p,0,none⟩),v] w fun e w'=> e=.returned (.tuple #[.int .i64 (textA S b),.int .i64 0])∧∃F',StA B w' p F' (S.text b)∧Chg F w w'∧∀b,F' b→F b∨w.heap.size≤b:=by
 obtain ⟨mb,mt,vl,vb,tv,h1,h2,h3⟩:=h
 have H:=Lib.hid h1
 have HOK:=Lib.hid h2
 have HFF:=Lib.hid h3
 have HBB:=Lib.hid hB
 have HL:=Lib.hid hl
 have HX:=Lib.hid hx
 have HOB:=Lib.hid hob
 have HV:=Lib.hid hv
 have HVF:=Lib.hid hvF
 clear hvF
 obtain ⟨av,cv,rfl,_⟩:=hv
 obtain ⟨PA,hPA⟩:∃x,x=textA S b:=⟨_,rfl⟩
 obtain ⟨SP,hSP⟩:∃x,x=S.text b:=⟨_,rfl⟩
 rw [←hPA,←hSP]
 have HPA:=Lib.hid hPA
 have HSP:=Lib.hid hSP
 have h9:¬ (1048576:Int)<(b.length:Int):=by have:=hob.2;omega
 clear h1 h2 h3 hB hl hx hob hPA hSP
 go_enter Try.func64,Try.ntmps64
 go_wp2_with fail
 refine (tIs_any H.out).mono ?_
 rintro e w1 ⟨rfl,rfl⟩
 go_upto_region 5 with (fail)
 have c2:=H.out.c2
 clear h9
 by_cases hin:b ∈ S.tx
 ·have E1:Hid (PA=(txN S b:Int)):=Lib.hid (by rw [HPA.out];unfold textA;rw [if_pos hin];rfl)
  have E2:Hid (SP=S):=Lib.hid (by rw [HSP.out];unfold TS.text;rw [if_pos hin])
  have l1:∀n,(Instr.lookup 157 (.map (some mt)) (.string (strOf b.length (bf b))) true).run Try.prog (w1.drewN n)=.ok (.tuple #[natV (txN S b),.bool true]) (w1.drewN n):=fun n=> keyTx.lookYes (H.out.below (Go.Bas.below_drewN (Below.refl _ _) n)).xm hin
  obtain ⟨X,hX⟩:∃X,X=txN S b:=⟨_,rfl⟩
  rw [←hX] at l1 E1
  clear hin hX
  refine wp_region_quiet_lit (by kernel_rfl) (by kernel_rfl) ?_
  repeat (first | (refine quiet_val rfl (fun n=> run_conv_rd rfl rfl (HV.out.below (Go.Bas.below_drewN (Below.refl _ _) n)) Try.underlying23 Try.underlying5 Try.underlying9 HOB.out.1.at) ?_) | quiet_step (fail))
  refine wpQuiet_nil ?_
  rintro _ ⟨nq,rfl⟩
  go_wp2
  go_ret2
  rw [E1.out,E2.out]
  exact ⟨rfl,F,⟨mb,mt,vl,vb,tv,H.out.below (Go.Bas.below_drewN (Below.refl _ _) nq),HOK.out,HFF.out⟩,.of_below (Go.Bas.below_drewN (Below.refl _ _) nq) _,fun b hb=> .inl hb⟩
 ·have E1:Hid (PA=(S.l.length:Int)):=Lib.hid (by rw [HPA.out];unfold textA;rw [if_neg hin])
  have l1:∀n,(Instr.lookup 157 (.map (some mt)) (.string (strOf b.length (bf b))) true).run Try.prog (w1.drewN n)=.ok (.tuple #[.int .i64 0,.bool false]) (w1.drewN n):=fun n=> keyTx.lookNo (H.out.below (Go.Bas.below_drewN (Below.refl _ _) n)).xm H.out.okx HOB.out hin
  have HIN:=Lib.hid hin
  clear hin
  refine wp_region_quiet_lit (by kernel_rfl) (by kernel_rfl) ?_
  repeat (first | (refine quiet_val rfl (fun n=> run_conv_rd rfl rfl (HV.out.below (Go.Bas.below_drewN (Below.refl _ _) n)) Try.underlying23 Try.underlying5 Try.underlying9 HOB.out.1.at) ?_) | quiet_step (fail))
  refine wpQuiet_nil ?_
  rintro _ ⟨nq,rfl⟩
  clear l1 c2
  have B3:=Lib.hid (Go.Bas.below_drewN (Below.refl w1.heap.size w1) nq)
  have H3:=Lib.hid (H.out.below B3.out)
  have HN9:=Lib.hid HOK.out.fresh9
  have c3:=H3.out.c3
  obtain ⟨ab,cb,eb,_⟩:=H3.out.bs.slice
  have HEB:=Lib.hid eb
  rw [eb] at c3
  clear eb
  go_wp2_with fail
  refine (tAdd_any H3.out (Nat.le_trans HBB.out B3.out.size) (9,(S.tx.length:Int),0) ⟨⟨by simp,by simp⟩,⟨by simp only;have:=HX.out;omega,by simp only;have:=HX.out;omega⟩,⟨by simp,by simp⟩⟩ HN9.out (fun h=> by simp at h) HL.out).mono ?_
  rintro e w4 ⟨rfl,vl',h4,hc4,hf4⟩
  have H4:=Lib.hid h4
  have C4:=Lib.hid hc4
  have F4:=Lib.hid hf4
  clear h4 hc4 hf4 c3
  go_upto_region 11 with (fail)
  apply region_early' (n:=63) [.f,.e,.e,.e,.e,.e,.c,.c,.c,.f,.f,.c] 2 (by kernel_rfl) (by kernel_rfl) (by kernel_rfl) rfl
  ·intro w5 hB5
   have c3:=(H4.out.below hB5).c3
   rw [HEB.out] at c3
   simp only [selBy,Cl.isE,cond_true,cond_false]
   repeat still_step
   exact wpStill_nil rfl
  ·intro w5
   simp only [selBy,Cl.isF,cond_true,cond_false]
   repeat still_step
   exact wpStill_nil rfl
  ·simp only [selBy,Cl.isC,cond_true,cond_false]
   refine chW_step ((Below.refl _ _).drew) (fun K hK=> ?_)
   go_simp
   have CF4:Hid (Chg F w1 w4):=Lib.hid ((Chg.of_below B3.out F).trans (C4.out.mono (G:=F) fun b _ hb=> (HFF.out b).2 (by
    rcases hb with h | h | h
    ·exact .inl h
    ·exact .inr (.inl h)
    ·exact .inr (.inr (.inr (.inl h))))) fun _ _ h=> h)
   have HV4:=Lib.hid ((HV.out.chgY CF4.out HVF.out).below ((Below.refl w4.heap.size w4).drew))
   have HB4:Hid (B≤w4.heap.size):=Lib.hid (Nat.le_trans HBB.out CF4.out.size)
   refine (clone_any _ _ _ _ HV4.out (by have:=HOB.out.2;omega)).mono ?_
   rintro e w5 ⟨u,rfl,hu,b5⟩
   have UB:Hid (∀c,u.ownBlock=some c→w4.heap.size≤c):=Lib.hid hu.block
   have hu:=hu.mono (show B≤w4.drew.heap.size from HB4.out)
   have b5':Below w4.heap.size w4 w5:=((Below.refl w4.heap.size w4).drew).trans b5
   refine hK _ _ b5' ?_
   clear hK K
   obtain ⟨au,cu,eu,_⟩:=hu.owmT.slice
   subst eu
   refine chW_step b5' (fun K hK=> ?_)
   rw [if_pos (wanted_none rfl)]
   refine wp_buildS 35 23 1 _ rfl Try.underlying35 #[.slice au b.length cu] (by kernel_rfl) (hK _ _ (b5'.alloc b5'.size _) (chW_zero ?_))
   clear hK K
   have H5:=Lib.hid (H4.out.below b5')
   refine wpList_append_lit (w0:=w5) rfl _ _ rfl rfl rfl (HEB.out▸H5.out.bs) Try.underlying35 Try.infoBs rfl rfl rfl (by have:=HX.out;unfold maxLen;show S.tx.length+1≤_;omega) (by have:=HX.out;show (S.tx.length+1) * 24≤_;omega) ?_
   intro v6 w6 ho6 hg6 hp6
   obtain ⟨⟨e0,f0⟩,hT7,hC7,hF7⟩:=H5.out.toTsp.pushV (b0:=b) (Nat.le_trans HB4.out b5'.size) ho6 rfl hu (HEB.out▸hg6) (HEB.out▸hp6)
   rw [HEB.out] at e0
   have T7:=Lib.hid hT7
   have C7:Hid (Chg (fun b=> b=p∨vb.ownBlock=some b) w4 _):=Lib.hid ((Chg.of_below b5' _).trans hC7 fun _ _ h=> h)
   have F7:Hid (∀b,v6.ownBlock=some b→vb.ownBlock=some b∨w4.heap.size≤b):=Lib.hid fun b hb=> (hF7 b hb).imp id fun h=> Nat.le_trans b5'.size h
   obtain ⟨a6,q6,rfl,_⟩:=ho6.slice
   clear ho6 hg6 hp6 hT7 hC7 hF7 hu b5 b5'
   go_wp2
   refine onlyN ?_
   go_upto_region 12 with (fail)
   refine wp_world (fun w7=> Tsp B w7 p mb mt vl' (.slice a6 (S.tx.length+1) q6) (fun j=> if j=S.tx.length then .slice au b.length cu else tv j) (S.l++ [(9,(S.tx.length:Int),0)]) (S.l++ [(9,(S.tx.length:Int),0)]) (S.tx++ [b]) S.tx (txN (S.add (9,(S.tx.length:Int),0))) (fun k=> nxt (S.l++ [(9,(S.tx.length:Int),0)]) k)∧Chg (fun b=> b=p∨vb.ownBlock=some b) w4 w7) ⟨T7.out,C7.out⟩ ?_
   rintro w7 ⟨hT7,hC7⟩
   have T7:=Lib.hid hT7
   have C7:=Lib.hid hC7
   have CF7:Hid (Chg F w1 w7):=Lib.hid (CF4.out.trans (hC7.mono (G:=F) fun c _ hc=> (HFF.out c).2 (by
    rcases hc with h | h
    ·exact .inl h
    ·exact .inr (.inr (.inr (.inr (.inl h)))))) fun _ _ h=> h)
   clear hT7 hC7 e0 f0
   have HV7:=Lib.hid (HV.out.chgY CF7.out HVF.out)
   have HIN9:=HIN.out
   obtain ⟨w8,hrun,hT8,hC8⟩:=(T7.out.below ((Below.refl w7.heap.size w7).drew)).putX (xv':=txN (S.text b)) H.out.okx HOB.out HIN.out (by have:=HX.out;omega) (txN_new H.out.nd H.out.txn HIN.out HN9.out) (by have:=HL.out;omega) (fun y hy=> txN_old H.out.txn HIN.out hy)
   have HRUN:Hid ((Instr.mapUpdate 157 (.map (some mt)) (.string (strOf b.length (bf b))) (.int .i64 (S.l.length:Int))).run Try.prog w7.drew=.ok () w8):=Lib.hid hrun
   have FIN:=Lib.hid (H.out.ofText HOB.out HIN.out HN9.out (by have:=HX.out;omega) hT8 fun k _=> by rw [nxt_snoc,if_neg (fun h=> by have:=h.1;simp at this)])
   have CF8:Hid (Chg F w1 w8):=Lib.hid ((CF7.out.trans (Chg.of_below ((Below.refl w7.heap.size w7).drew) (fun _=> False)) fun _ _ h=> h.elim).trans (hC8.mono (G:=F) fun c _ hc=> (HFF.out c).2 (.inr (.inr (.inl hc)))) fun _ _ h=> h)
   have OK8:=Lib.hid (HOK.out.text b)
   have F8:Hid (∀c,TF p mb mt vl' (.slice a6 (S.tx.length+1) q6) (S.text b).tx.length (fun j=> if j=S.tx.length then .slice au b.length cu else tv j) c→F c∨w1.heap.size≤c):=Lib.hid fun c hc=> by
    have s4:=CF4.out.size
    rcases hc with h | h | h | h | h | ⟨j,hj,h⟩
    ·exact .inl ((HFF.out c).2 (.inl h))
    ·exact .inl ((HFF.out c).2 (.inr (.inl h)))
    ·exact .inl ((HFF.out c).2 (.inr (.inr (.inl h))))
    ·exact (F4.out c h).imp (fun h=> (HFF.out c).2 (.inr (.inr (.inr (.inl h))))) fun h=> Nat.le_trans B3.out.size h
    ·exact (F7.out c h).imp (fun h=> (HFF.out c).2 (.inr (.inr (.inr (.inr (.inl h)))))) fun h=> Nat.le_trans s4 h
    ·dsimp only at h
     by_cases e:j=S.tx.length
     ·rw [if_pos e] at h
      exact .inr (Nat.le_trans s4 (UB.out c h))
     ·rw [if_neg e] at h
      have hj:j<(S.text b).tx.length:=hj
      rw [show S.text b=⟨S.l++ [(9,(S.tx.length:Int),0)],S.tx++ [b]⟩ from if_neg HIN.out] at hj
      have hj:j<(S.tx++ [b]).length:=hj
      rw [List.length_append,List.length_singleton] at hj
      exact .inl ((HFF.out c).2 (.inr (.inr (.inr (.inr (.inr ⟨j,by omega,h⟩))))))
   clear hrun hT8 hC8 HIN9
   rw [←HSP.out] at FIN OK8 F8
   apply region_early' (n:=63) [.e,.e,.e,.e,.e,.c,.e,.c] 1 (by kernel_rfl) (by kernel_rfl) (by kernel_rfl) rfl
   ·intro w9 hB9
    have c2:=(T7.out.below hB9).c2
    simp only [selBy,Cl.isE,cond_true,cond_false]
    repeat still_step
    exact wpStill_nil rfl
   ·intro w9
    simp only [selBy,Cl.isF,cond_true,cond_false]
    repeat still_step
    exact wpStill_nil rfl
   ·simp only [selBy,Cl.isC,cond_true,cond_false]
    refine chW_step ((Below.refl _ _).drew) (fun K hK=> ?_)
    rw [if_pos (wanted_none rfl)]
    unfold Oper.wp
    rw [run_conv_rd (v:=.slice av b.length cv) rfl rfl (HV7.out.below ((Below.refl w7.heap.size w7).drew)) Try.underlying23 Try.underlying5 Try.underlying9 HOB.out.1.at]
    refine hK _ _ ((Below.refl _ _).drew) (chW_zero ?_)
    clear hK K
    have hrun:=HRUN.out
    go_wp2
    refine onlyN ?_
    clear hrun
    go_wp2
    go_ret2
    rw [E1.out]
    exact ⟨rfl,_,⟨mb,mt,_,_,_,FIN.out,OK8.out,fun b=> Iff.rfl⟩,CF8.out,F8.out⟩
end
end Go.Proofs.Ytlmdgmgbijfaoaa
namespace Go.Proofs.Ytlmdgmgbijfaoaa
open Go.RowKit Go.Bas Go.ChangeShapes Go.Maps
attribute [local go_sem ↓] Go.wp_at_zero Go.wp_at_succ
def RsA (B:Nat) (w:World) (p:Nat) (F:Nat→Prop) (S:TS):Prop:=∃vl vb tv,Rst B w p vl vb tv S.l S.tx∧∀b,F b ↔ RF p vl vb b
section
variable {B : Nat} {w w' : World} {p : Nat} {F : Nat → Prop} {S : TS}
theorem RsA.below (h:RsA B w p F S) (hb:Below w.heap.size w w'):RsA B w' p F S:=by
 obtain ⟨vl,vb,tv,h1,h3⟩:=h
 exact ⟨vl,vb,tv,h1.below hb,h3⟩
theorem RsA.keep {G:Nat→Prop} (h:RsA B w p F S) (hc:Chg G w w') (hF:∀b,F b→¬ G b) (hB:∀b,G b→B≤b):RsA B w' p F S:=by
 obtain ⟨vl,vb,tv,h1,h3⟩:=h
 exact ⟨vl,vb,tv,h1.keep hc (fun b hb=> hF b ((h3 b).2 hb)) hB,h3⟩
theorem RsA.hi (h:RsA B w p F S) {b:Nat} (hb:F b):B≤b:=by
 obtain ⟨vl,vb,tv,h1,h3⟩:=h
 exact h1.hi ((h3 b).1 hb)
theorem RsA.lt (h:RsA B w p F S) {b:Nat} (hb:F b):b<w.heap.size:=by
 obtain ⟨vl,vb,tv,h1,h3⟩:=h
 exact h1.lt ((h3 b).1 hb)
end
section
variable {B : Nat} {w w1 w' : World} {p : Nat} {vl vb : Value} {tv : Nat → Value} {l : List Tm} {tx : List (List Int)}
theorem Rst.pushL {o:Obj} {v':Value} {y:Nat→Nat→Value} {t:Tm} (h:Rst B w p vl vb tv l tx) (hB:B≤w.heap.size) (hot:okTm t) (ho:OwM 97 3 w1 v' (l.length+1) (catM l.length (tmv l) y)) (hy:∀i,y 0 i=.int .i64 (tf t i)) (hg:(w.alloc o).grownBy w1 vl.ownBlock) (hp:Placed w vl v'):
  (w1.cell? ⟨p,0,none⟩=some vl∧w1.frozen? ⟨p,0,none⟩=false)∧Rst B (w1.setCell ⟨p,0,none⟩ v') p v' vb tv (l++ [t]) tx∧Chg (fun b=> b=p∨vl.ownBlock=some b) w (w1.setCell ⟨p,0,none⟩ v')∧∀b,v'.ownBlock=some b→vl.ownBlock=some b∨w.heap.size≤b:=by
 have C1:Chg (fun b=> vl.ownBlock=some b) w w1:=Chg.of_lit hg
 have hpl:vl.ownBlock≠some p:=fun e=> h.ls.heap_ne h.row (by decide) e
 have row1:=h.row.heap (C1.block p h.row.lt hpl)
 have hfar:∀b,v'.ownBlock=some b→vl.ownBlock=some b∨w.heap.size≤b:=fun b hb=> by
  rcases hp with hp | hp
  ·exact .inl (hp▸hb)
  ·exact .inr (hp b hb)
 have c:=fun (i:Nat)=> C1.cell (p:=⟨p,i,none⟩) h.row.lt hpl
 have bs1:=h.bs.chg C1 fun b hb e=> h.bs.apartT h.ls (by decide) hb e
 have bt1:∀j b,tx[j]? =some b→Rd .u8 w1 (tv j) b.length (bf b):=fun j b hb=> (h.bt j b hb).chgZ C1 fun h0 c hcc e=> by have:=h.lo j b hb h0 c hcc;have:=h.hl c e;omega
 have C2:Chg (fun b=> b=p) w1 (w1.setCell ⟨p,0,none⟩ v'):=.set _ _ ⟨p,0,none⟩ _ rfl
 have cc:=fun (i:Nat) (hi:i≠0)=> (World.cell?_setCell_other w1 _ _ v' (fun e:(⟨p,0,none⟩:Addr)=⟨p,i,none⟩=> hi (by cases e;rfl))).trans (c i)
 have e0:(w1.setCell ⟨p,0,none⟩ v').cell? ⟨p,0,none⟩=some v':=World.cell?_setCell_same _ _ _ ((c 0).trans h.c0)
 refine ⟨⟨(c 0).trans h.c0,row1.free 0⟩,⟨row1.setCell _ rfl _,e0,(cc 1 (by decide)).trans h.c1,
  (tmv_snoc ho hy).chg C2 fun b hb e=> (tmv_snoc ho hy).heap_ne row1 (by decide) (e▸hb),bs1.chg C2 fun b hb e=> bs1.heap_ne row1 (by decide) (e▸hb),fun j b hb=> (bt1 j b hb).chgZ C2 fun h0 c hcc e=> by have:=h.lo j b hb h0 c hcc;have:=h.hp;omega,
  h.lo,h.hp,fun b hb=> (hfar b hb).elim (h.hl b) (fun h'=> Nat.le_trans hB h'),h.hv,fun u hu=> (List.mem_append.1 hu).elim (h.okt u) fun e=> by rw [List.mem_singleton.1 e];exact hot,h.okx⟩,
  (C1.mono fun _ _ h=> .inr h).trans (C2.mono fun _ _ h=> .inl h) fun _ _ h=> h,hfar⟩
theorem Rst.pushV {o:Obj} {v' u:Value} {y:Nat→Nat→Value} {b0:List Int} (h:Rst B w p vl vb tv l tx) (hB:B≤w.heap.size) (hob:okX b0) (ho:OwM 23 1 w1 v' (tx.length+1) (catM tx.length (fun j _=> tv j) y)) (hy:y 0 0=u) (hu:Rd .u8 w u b0.length (bf b0)) (hul:0<b0.length→∀c,u.ownBlock=some c→c<B) (hg:(w.alloc o).grownBy w1 vb.ownBlock) (hp:Placed w vb v'):
  (w1.cell? ⟨p,1,none⟩=some vb∧w1.frozen? ⟨p,1,none⟩=false)∧Rst B (w1.setCell ⟨p,1,none⟩ v') p vl v' (fun j=> if j=tx.length then u else tv j) l (tx++ [b0])∧Chg (fun b=> b=p∨vb.ownBlock=some b) w (w1.setCell ⟨p,1,none⟩ v')∧∀b,v'.ownBlock=some b→vb.ownBlock=some b∨w.heap.size≤b:=by
 have C1:Chg (fun b=> vb.ownBlock=some b) w w1:=Chg.of_lit hg
 have hpl:vb.ownBlock≠some p:=fun e=> h.bs.heap_ne h.row (by decide) e
 have row1:=h.row.heap (C1.block p h.row.lt hpl)
 have hfar:∀b,v'.ownBlock=some b→vb.ownBlock=some b∨w.heap.size≤b:=fun b hb=> by
  rcases hp with hp | hp
  ·exact .inl (hp▸hb)
  ·exact .inr (hp b hb)
 have c:=fun (i:Nat)=> C1.cell (p:=⟨p,i,none⟩) h.row.lt hpl
 have ls1:=h.ls.chg C1 fun b hb e=> h.ls.apartT h.bs (by decide) hb e
 have C2:Chg (fun b=> b=p) w1 (w1.setCell ⟨p,1,none⟩ v'):=.set _ _ ⟨p,1,none⟩ _ rfl
 have C12:Chg (fun b=> b=p∨vb.ownBlock=some b) w (w1.setCell ⟨p,1,none⟩ v'):=(C1.mono fun _ _ h=> .inr h).trans (C2.mono fun _ _ h=> .inl h) fun _ _ h=> h
 have cc:=fun (i:Nat) (hi:i≠1)=> (World.cell?_setCell_other w1 _ _ v' (fun e:(⟨p,1,none⟩:Addr)=⟨p,i,none⟩=> hi (by cases e;rfl))).trans (c i)
 have e0:(w1.setCell ⟨p,1,none⟩ v').cell? ⟨p,1,none⟩=some v':=World.cell?_setCell_same _ _ _ ((c 1).trans h.c1)
 have bs1:OwM 23 1 w1 v' (tx++ [b0]).length (fun j _=> if j=tx.length then u else tv j):=by
  rw [List.length_append,List.length_singleton]
  refine ho.congr fun j hj i hi=> ?_
  obtain rfl:i=0:=by omega
  by_cases e:j=tx.length
  ·subst e;rw [catM_at,hy,if_pos rfl]
  ·rw [catM_lo (by omega),if_neg e]
 have low:∀c,(c=p∨vb.ownBlock=some c)→B≤c:=fun c hc=> hc.elim (fun e=> e▸h.hp) (h.hv c)
 refine ⟨⟨(c 1).trans h.c1,row1.free 1⟩,⟨row1.setCell _ rfl _,(cc 0 (by decide)).trans h.c0,e0,
  ls1.chg C2 fun b hb e=> ls1.heap_ne row1 (by decide) (e▸hb),bs1.chg C2 fun b hb e=> bs1.heap_ne row1 (by decide) (e▸hb),fun j b hb=> ?_,fun j b hb h0 c hcc=> ?_,
  h.hp,h.hl,fun b hb=> (hfar b hb).elim (h.hv b) (fun h'=> Nat.le_trans hB h'),h.okt,fun x hx=> (List.mem_append.1 hx).elim (h.okx x) fun e=> by rw [List.mem_singleton.1 e];exact hob⟩,C12,hfar⟩
 ·by_cases e:j=tx.length
  ·subst e
   rw [List.getElem?_append_right (Nat.le_refl _),Nat.sub_self] at hb
   cases hb
   rw [if_pos rfl]
   exact hu.chgZ C12 fun h0 c hcc hg=> by have:=hul h0 c hcc;have:=low c hg;omega
  ·have hlt:=(List.getElem?_eq_some_iff.1 hb).1
   rw [List.length_append,List.length_singleton] at hlt
   rw [List.getElem?_append_left (by omega)] at hb
   rw [if_neg e]
   exact (h.bt j b hb).chgZ C12 fun h0 c hcc hg=> by have:=h.lo j b hb h0 c hcc;have:=low c hg;omega
 ·try dsimp only at hcc
  by_cases e:j=tx.length
  ·rw [if_pos e] at hcc
   subst e
   rw [List.getElem?_append_right (Nat.le_refl _),Nat.sub_self] at hb
   cases hb
   exact hul h0 c hcc
  ·rw [if_neg e] at hcc
   have hlt:=(List.getElem?_eq_some_iff.1 hb).1
   rw [List.length_append,List.length_singleton] at hlt
   rw [List.getElem?_append_left (by omega)] at hb
   exact h.lo j b hb h0 c hcc
theorem rPut_any {F:Nat→Prop} {S:TS} (h:RsA B w p F S) (hB:B≤w.heap.size) (t:Tm) (hot:okTm t) (hl:S.l.length≤1000):
  Calls Try.prog 103 #[.pointer (some ⟨p,0,none⟩),tmV t] w fun e w'=> e=.returned (.tuple #[.int .i64 (putA S t).1,.int .i64 (putA S t).2])∧∃F',RsA B w' p F' (S.put t)∧Chg F w w'∧∀b,F' b→F b∨w.heap.size≤b:=by
 obtain ⟨vl,vb,tv,h1,h3⟩:=h
 have H:=Lib.hid h1
 have HFF:=Lib.hid h3
 have HBB:=Lib.hid hB
 have HOT:=Lib.hid hot
 have HL:=Lib.hid hl
 obtain ⟨PA,hPA⟩:∃x,x=putA S t:=⟨_,rfl⟩
 obtain ⟨SP,hSP⟩:∃x,x=S.put t:=⟨_,rfl⟩
 rw [←hPA,←hSP]
 have HPA:=Lib.hid hPA
 have HSP:=Lib.hid hSP
 clear h1 h3 hB hot hl hPA hSP
 go_enter Try.func103,Try.ntmps103
 go_upto_region 1 with (fail)
 refine wp_world (fun w1=> (∀i,i<3→w1.cell? ⟨w.heap.size,i,none⟩=some (.int .i64 (tf t i)))∧w.heap.size<w1.heap.size∧Below w.heap.size w w1) ⟨fun i hi=> by rcases (by omega:i=0∨i=1∨i=2) with rfl | rfl | rfl<;> exact cell_of_row _ _ _ _ _ (0,0) (heap_alloc_new w _),by rw [World.size_alloc];omega,(Below.refl _ _).alloc (Nat.le_refl _) _⟩ ?_
 rintro w1 ⟨hc1,hlt1,bb1⟩
 have HC1:Hid (∀i,i<3→w1.cell? ⟨w.heap.size,0+i,none⟩=some (.int .i64 (tf t i))):=Lib.hid fun i hi=> by rw [Nat.zero_add];exact hc1 i hi
 have HLT1:=Lib.hid hlt1
 have B1:=Lib.hid bb1
 have H1:=Lib.hid (H.out.below bb1)
 clear hc1 hlt1 bb1
 go_wp2_with (refine load_row (y:=fun i=> .int .i64 (tf t i)) rfl rfl rfl Try.underlying97 rfl Try.sizeTm HC1.out ?_)
 refine (rMay_any H1.out t).mono ?_
 rintro e w2 ⟨rfl,b2⟩
 have H2:=Lib.hid (H1.out.below b2)
 have B2:=Lib.hid (B1.out.trans (b2.mono B1.out.size))
 have HC2:Hid (∀i,i<3→w2.cell? ⟨w.heap.size,0+i,none⟩=some (.int .i64 (tf t i))):=Lib.hid fun i hi=> (b2.cell (p:=⟨w.heap.size,0+i,none⟩) HLT1.out).trans (HC1.out i hi)
 have HLT2:Hid (w.heap.size<w2.heap.size):=Lib.hid (Nat.lt_of_lt_of_le HLT1.out b2.size)
 clear b2
 cases hm:mayT S t with
 | false=>
  have E1:Hid (PA=(0,2)):=Lib.hid (by rw [HPA.out];unfold putA;rw [if_neg (by rw [hm];decide)])
  have E2:Hid (SP=S):=Lib.hid (by rw [HSP.out];unfold TS.put;rw [if_neg (fun h=> by rw [hm] at h;cases h.1)])
  clear hm
  go_wp2
  go_ret2
  rw [E1.out,E2.out]
  exact ⟨rfl,F,⟨vl,vb,tv,H2.out,HFF.out⟩,.of_below B2.out _,fun b hb=> .inl hb⟩
 | true=>
  go_wp2_with (refine load_row (y:=fun i=> .int .i64 (tf t i)) rfl rfl rfl Try.underlying97 rfl Try.sizeTm HC2.out ?_)
  refine (rFind_any H2.out t HOT.out HL.out).mono ?_
  rintro e w3 ⟨rfl,b3⟩
  have H3:=Lib.hid (H2.out.below b3)
  have B3:=Lib.hid (B2.out.trans (b3.mono B2.out.size))
  have HC3:Hid (∀i,i<3→w3.cell? ⟨w.heap.size,0+i,none⟩=some (.int .i64 (tf t i))):=Lib.hid fun i hi=> (b3.cell (p:=⟨w.heap.size,0+i,none⟩) HLT2.out).trans (HC2.out i hi)
  have HLT3:Hid (w.heap.size<w3.heap.size):=Lib.hid (Nat.lt_of_lt_of_le HLT2.out b3.size)
  clear b3
  by_cases hin:t ∈ S.l
  ·have E1:Hid (PA=((plc S.l t:Int),0)):=Lib.hid (by rw [HPA.out];unfold putA;rw [if_pos hm,if_pos hin])
   have E2:Hid (SP=S):=Lib.hid (by rw [HSP.out];unfold TS.put;rw [if_neg (fun h=> h.2 hin)])
   rw [show fidx S.l t=(plc S.l t:Int) from if_pos hin]
   obtain ⟨X,hX⟩:∃X,X=plc S.l t:=⟨_,rfl⟩
   rw [←hX] at E1 ⊢
   have hx0:¬ (X:Int)<0:=by omega
   clear hm hin hX
   go_wp2
   go_ret2
   rw [E1.out,E2.out]
   exact ⟨rfl,F,⟨vl,vb,tv,H3.out,HFF.out⟩,.of_below B3.out _,fun b hb=> .inl hb⟩
  ·have E1:Hid (PA=((S.l.length:Int),0)):=Lib.hid (by rw [HPA.out];unfold putA;rw [if_pos hm,if_neg hin])
   have E2:Hid (SP=S.add t):=Lib.hid (by rw [HSP.out];unfold TS.put;rw [if_pos ⟨hm,hin⟩])
   rw [show fidx S.l t= -1 from if_neg hin]
   have c0:=H3.out.c0
   obtain ⟨al,cl,el,_⟩:=H3.out.ls.slice
   have HEL:=Lib.hid el
   rw [el] at c0
   clear hm hin el
   go_upto_region 6 with (fail)
   clear c0
   apply region_early' (n:=32) [.f,.e,.e,.e,.e,.e,.c,.c,.f,.f,.c] 1 (by kernel_rfl) (by kernel_rfl) (by kernel_rfl) rfl
   ·intro w5 hB5
    have c0:=(H3.out.below hB5).c0
    rw [HEL.out] at c0
    have HC5:Hid (∀i,i<3→w5.cell? ⟨w.heap.size,0+i,none⟩=some (.int .i64 (tf t i))):=fun i hi=> (hB5.cell (p:=⟨w.heap.size,0+i,none⟩) HLT3.out).trans (HC3.out i hi)
    simp only [selBy,Cl.isE,cond_true,cond_false]
    repeat (first | (refine still_row (y:=fun i=> .int .i64 (tf t i)) rfl rfl rfl Try.underlying97 rfl Try.sizeTm HC5.out ?_) | still_step)
    exact wpStill_nil rfl
   ·intro w5
    simp only [selBy,Cl.isF,cond_true,cond_false]
    repeat still_step
    exact wpStill_nil rfl
   ·simp only [selBy,Cl.isC,cond_true,cond_false]
    refine chW_step ((Below.refl _ _).drew) (fun K hK=> ?_)
    rw [if_pos (wanted_none rfl)]
    refine wp_buildS 93 97 1 _ rfl Try.underlying93 (rowV 3 (fun i=> .int .i64 (tf t i))) (by kernel_rfl) (hK _ _ (((Below.refl _ _).drew).alloc (Nat.le_refl _) _) (chW_zero ?_))
    clear hK K
    have H4:=Lib.hid (H3.out.below ((Below.refl w3.heap.size w3).drew))
    refine wpList_append_row (w0:=w3.drew) rfl _ _ rfl rfl rfl (HEL.out▸H4.out.ls) (by decide) Try.underlying93 Try.infoTm rfl rfl (fun i _=> rfl) (by have:=HL.out;unfold maxLen;omega) (by have:=HL.out;omega) ?_
    intro v4 w4 ho4 hg4 hp4
    obtain ⟨⟨e0,f0⟩,hT5,hC5,hF5⟩:=H4.out.pushL (t:=t) (Nat.le_trans HBB.out B3.out.size) HOT.out ho4 (fun _=> rfl) (HEL.out▸hg4) (HEL.out▸hp4)
    rw [HEL.out] at e0
    have T5:=Lib.hid hT5
    have C5:Hid (Chg F w _):=Lib.hid ((Chg.of_below (B3.out.drew) F).trans (hC5.mono (G:=F) fun b _ hb=> (HFF.out b).2 (hb.elim .inl fun h=> .inr (.inl h))) fun _ _ h=> h)
    have F5:Hid (∀b,RF p v4 vb b→F b∨w.heap.size≤b):=Lib.hid fun b hb=> by
     rcases hb with h | h | h
     ·exact .inl ((HFF.out b).2 (.inl h))
     ·exact (hF5 b h).imp (fun h=> (HFF.out b).2 (.inr (.inl h))) fun h=> Nat.le_trans B3.out.size h
     ·exact .inl ((HFF.out b).2 (.inr (.inr h)))
    obtain ⟨a4,q4,rfl,_⟩:=ho4.slice
    clear ho4 hg4 hp4 hT5 hC5 hF5
    go_wp2
    refine onlyN ?_
    clear e0 f0
    go_wp2
    go_ret2
    rw [E1.out,E2.out]
    exact ⟨rfl,_,⟨_,_,_,T5.out,fun b=> Iff.rfl⟩,C5.out,F5.out⟩
end
end Go.Proofs.Ytlmdgmgbijfaoaa
namespace Go.Bas
theorem nxt_take_le (l:List Tm) (s:Int) (k:Nat):nxt (l.take k) s≤nxt l s:=by
 conv=> rhs;rw [←List.take_append_drop k l]
 unfold nxt
 rw [List.foldl_append]
 exact (nxt_foldl s _ _).1
theorem nxt_take_succ {l:List Tm} {k:Nat} {t:Tm} (h:l[k]? =some t) (s:Int):nxt (l.take (k+1)) s=if t.1=1∧t.2.1=s then max (nxt (l.take k) s) (min t.2.2 topT+1) else nxt (l.take k) s:=by
 rw [List.take_add_one,h]
 exact nxt_snoc _ _ _
end Go.Bas
namespace Go.Proofs.Ytlmdgmgbijfaoaa
open Go.RowKit Go.Bas Go.ChangeShapes Go.Maps
attribute [local go_sem ↓] Go.wp_at_zero Go.wp_at_succ
section
variable {B : Nat} {w w' : World} {p : Nat} {F : Nat → Prop} {S : TS}
theorem rDraw_any (h:RsA B w p F S) (hB:B≤w.heap.size) (s:Int) (hos:okI64 s) (hl:S.l.length≤1000):
  Calls Try.prog 104 #[.pointer (some ⟨p,0,none⟩),.int .i64 s] w fun e w'=> e=.returned (.tuple #[.int .i64 (drawA S s).1,.int .i64 (drawA S s).2])∧∃F',RsA B w' p F' (S.draw s)∧Chg F w w'∧∀b,F' b→F b∨w.heap.size≤b:=by
 obtain ⟨vl,vb,tv,h1,h3⟩:=h
 have H:=Lib.hid h1
 have HFF:=Lib.hid h3
 have HBB:=Lib.hid hB
 have HL:=Lib.hid hl
 have HOS:=Lib.hid hos
 obtain ⟨PA,hPA⟩:∃x,x=drawA S s:=⟨_,rfl⟩
 obtain ⟨SP,hSP⟩:∃x,x=S.draw s:=⟨_,rfl⟩
 rw [←hPA,←hSP]
 have HPA:=Lib.hid hPA
 have HSP:=Lib.hid hSP
 have c0:=h1.c0
 obtain ⟨al,cl,el,_⟩:=h1.ls.slice
 have HEL:=Lib.hid el
 rw [el] at c0
 clear h1 h3 hB hl hPA hSP el hos
 by_cases hs:1≤s∧s≤4
 ·have HS:=Lib.hid hs
  have hm:Hid (isSort s=true):=Lib.hid (by simp [isSort,hs])
  have hs1:¬ s<1:=by omega
  have hs4:¬ (4:Int)<s:=by omega
  clear hs
  go_enter Try.func104,Try.ntmps104
  go_wp2
  clear hs1 hs4
  go_loop [7,6] (fun i b=> ∃k:Nat,k≤S.l.length∧i=.int .i64 k∧b=.int .i64 (nxt (S.l.take k) s)∧nxt (S.l.take k) s≤topT) (fun i _=> S.l.length - (intOf i).toNat)
  case atStart=> exact ⟨0,Nat.zero_le _,rfl,rfl,by unfold topT;simp [nxt]⟩
  case round=>
   obtain ⟨k,hk,rfl,rfl,hnt⟩:=hrel
   have HNT:=Lib.hid hnt
   have HNN:=Lib.hid (nxt_nonneg (S.l.take k) s)
   clear hnt
   by_cases hlt:k<S.l.length
   ·obtain ⟨t,ht⟩:∃t,S.l[k]? =some t:=⟨_,List.getElem?_eq_getElem hlt⟩
    obtain ⟨g,cap,ev,_,_,_,hc⟩:=H.out.ls.form (by omega)
    rw [HEL.out] at ev
    simp only [Value.slice.injEq,true_and] at ev
    obtain ⟨rfl,rfl⟩:=ev
    have z0:=hc k hlt 0 (by decide)
    have z1:=hc k hlt 1 (by decide)
    have z2:=hc k hlt 2 (by decide)
    rw [tmv_at ht] at z0 z1 z2
    rw [Nat.add_zero,show tf t 0=t.1 from rfl] at z0
    rw [show tf t 1=t.2.1 from rfl] at z1
    rw [show tf t 2=t.2.2 from rfl] at z2
    have HNX:=Lib.hid (nxt_take_succ ht s)
    have HTA:=Lib.hid (nxt_take_le S.l s (k+1))
    have hk9:(k:Int)<1000000:=by have:=HL.out;omega
    have HKL:=Lib.hid hlt
    have HK1:=Lib.hid (show k+1≤S.l.length by omega)
    obtain ⟨b,hb⟩:∃b,b=nxt (S.l.take k) s:=⟨_,rfl⟩
    rw [←hb] at HNX HNT HNN ⊢
    have HOT:=Lib.hid (H.out.okt t (List.mem_of_getElem? ht))
    obtain ⟨tk,ta,tb⟩:=t
    simp only at z0 z1 z2
    clear hc ht hb
    by_cases hk1:tk=1
    ·have hkb:(tk==1)=true:=by simpa using hk1
     by_cases hka:ta=s
     ·have hab:(ta==s)=true:=by simpa using hka
      have HN2:Hid (nxt (S.l.take (k+1)) s=max b (min tb topT+1)):=Lib.hid (by rw [HNX.out];exact if_pos ⟨hk1,hka⟩)
      clear hk1 hka
      by_cases hbb:b≤tb
      ·by_cases htop:(4611686018427387904:Int)≤tb
       ·have E1:Hid (PA=(0,3)):=Lib.hid (by
         rw [HPA.out];unfold drawA;rw [if_pos hm.out,if_neg]
         have h1:=HTA.out;rw [HN2.out] at h1;unfold topT at h1 ⊢;omega)
        have E2:Hid (SP=S):=Lib.hid (by
         rw [HSP.out];unfold TS.draw;rw [if_neg]
         rintro ⟨_,h2⟩
         have h1:=HTA.out;rw [HN2.out] at h1;unfold topT at h1 h2;omega)
        go_wp2
        go_ret2
        rw [E1.out,E2.out]
        exact ⟨rfl,F,⟨vl,vb,tv,H.out,HFF.out⟩,.refl _ _,fun b hb=> .inl hb⟩
       ·have hwr:IntKind.i64.wrap (tb+1)=tb+1:=wrap_i64_id (by have:=HNN.out;omega) (by omega)
        have HNB:Hid (nxt (S.l.take (k+1)) s=tb+1∧tb+1≤topT):=Lib.hid (by rw [HN2.out];unfold topT;omega)
        have hdt:decide ((4611686018427387904:Int)≤tb)=false:=decide_eq_false htop
        clear htop
        go_wp2
        go_round
        case rel=> exact ⟨k+1,HK1.out,by go_num,by rw [HNB.out.1],by rw [HNB.out.1];exact HNB.out.2⟩
        case measure=> have:=HKL.out;simp [intOf];omega
      ·have HNB:Hid (nxt (S.l.take (k+1)) s=b):=Lib.hid (by rw [HN2.out];omega)
       go_wp2
       go_round
       case rel=> exact ⟨k+1,HK1.out,by go_num,by rw [HNB.out],by rw [HNB.out];exact HNT.out⟩
       case measure=> have:=HKL.out;simp [intOf];omega
     ·have hab:(ta==s)=false:=by simpa using hka
      have HNB:Hid (nxt (S.l.take (k+1)) s=b):=Lib.hid (by rw [HNX.out];exact if_neg fun h=> hka h.2)
      clear hk1 hka
      go_wp2
      go_round
      case rel=> exact ⟨k+1,HK1.out,by go_num,by rw [HNB.out],by rw [HNB.out];exact HNT.out⟩
      case measure=> have:=HKL.out;simp [intOf];omega
    ·have hkb:(tk==1)=false:=by simpa using hk1
     have HNB:Hid (nxt (S.l.take (k+1)) s=b):=Lib.hid (by rw [HNX.out];exact if_neg fun h=> hk1 h.1)
     clear hk1
     go_wp2
     go_round
     case rel=> exact ⟨k+1,HK1.out,by go_num,by rw [HNB.out],by rw [HNB.out];exact HNT.out⟩
     case measure=> have:=HKL.out;simp [intOf];omega
   ·obtain rfl:k=S.l.length:=by omega
    rw [List.take_length] at HNN HNT ⊢
    have E1:Hid (PA=((S.l.length:Int),0)):=Lib.hid (by rw [HPA.out];unfold drawA;rw [if_pos hm.out,if_pos HNT.out])
    have E2:Hid (SP=S.add (1,s,nxt S.l s)):=Lib.hid (by rw [HSP.out];unfold TS.draw;rw [if_pos ⟨hm.out,HNT.out⟩])
    obtain ⟨b,hb⟩:∃b,b=nxt S.l s:=⟨_,rfl⟩
    rw [←hb] at HNN HNT E2 ⊢
    have HOT:Hid (okTm (1,s,b)):=Lib.hid ⟨⟨by simp,by simp⟩,HOS.out,⟨by have:=HNN.out;simp only;omega,by have:=HNT.out;unfold topT at this;simp only;omega⟩⟩
    clear hb hlt
    go_wp2_with (first
     | (refine wpList_plain rfl fun _ hK=> wp_buildS 93 97 1 _ rfl Try.underlying93 (rowV 3 (fun i=> .int .i64 (tf (1,s,b) i))) (by kernel_rfl) (hK _ _ ?_))
     | ((refine wpList_append_row (w0:=w) rfl _ _ rfl rfl rfl (HEL.out▸H.out.ls) (by decide) Try.underlying93 Try.infoTm rfl rfl (fun i _=> rfl) (by have:=HL.out;unfold maxLen;omega) (by have:=HL.out;omega) ?_);(intro v4 w4 ho4 hg4 hp4);(obtain ⟨⟨e0,f0⟩,hT5,hC5,hF5⟩:=H.out.pushL (t:=(1,s,b)) HBB.out HOT.out ho4 (fun _=> rfl) (HEL.out▸hg4) (HEL.out▸hp4));(rw [HEL.out] at e0);(have T5:=Lib.hid hT5);(have C5:Hid (Chg F w _):=Lib.hid (hC5.mono (G:=F) fun b _ hb=> (HFF.out b).2 (hb.elim .inl fun h=> .inr (.inl h))));(have F5:Hid (∀b,RF p v4 vb b→F b∨w.heap.size≤b):=Lib.hid fun b hb=> (show b=p∨v4.ownBlock=some b∨vb.ownBlock=some b from hb).elim (fun h=> .inl ((HFF.out b).2 (.inl h))) fun h=> h.elim (fun h=> (hF5 b h).imp (fun h=> (HFF.out b).2 (.inr (.inl h))) id) fun h=> .inl ((HFF.out b).2 (.inr (.inr h))));(have k0:=hT5.c0);(obtain ⟨a4,q4,rfl,_⟩:=ho4.slice);clear ho4 hg4 hp4 hT5 hC5 hF5 c0))
    go_ret2
    rw [E1.out,E2.out]
    exact ⟨by simp,_,⟨_,_,_,T5.out,fun b=> Iff.rfl⟩,C5.out,F5.out⟩
 ·have E1:Hid (PA=(0,2)):=Lib.hid (by rw [HPA.out];unfold drawA;rw [if_neg (fun h=> hs (by simpa [isSort] using h))])
  have E2:Hid (SP=S):=Lib.hid (by rw [HSP.out];unfold TS.draw;rw [if_neg (fun h=> hs (by simpa [isSort] using h.1))])
  by_cases hs1:s<1
  all_goals
   have hs4:¬ s<1→(4:Int)<s:=fun h=> by omega
   first | have hs5:=hs4 hs1 | skip
   clear hs hs4
   go_enter Try.func104,Try.ntmps104
   go_wp2
   go_ret2
   rw [E1.out,E2.out]
   exact ⟨rfl,F,⟨vl,vb,tv,H.out,HFF.out⟩,.refl _ _,fun b hb=> .inl hb⟩
end
end Go.Proofs.Ytlmdgmgbijfaoaa
namespace Go.Proofs.Ytlmdgmgbijfaoaa
open Go.RowKit Go.Bas Go.ChangeShapes Go.Maps
attribute [local go_sem ↓] Go.wp_at_zero Go.wp_at_succ
theorem bf_ext {b c:List Int} (hl:b.length=c.length) (h:∀i,i<b.length→bf b i=bf c i):b=c:=by
 apply List.ext_getElem?
 intro i
 by_cases hi:i<b.length
 ·have:=h i hi
  unfold bf at this
  rw [List.getD_eq_getElem?_getD,List.getD_eq_getElem?_getD,List.getElem?_eq_getElem hi,List.getElem?_eq_getElem (by omega)] at this
  rw [List.getElem?_eq_getElem hi,List.getElem?_eq_getElem (by omega)]
  exact congrArg some this
 ·rw [List.getElem?_eq_none (by omega),List.getElem?_eq_none (by omega)]
theorem same_txt (va vb:Value) (b c:List Int) (w:World) (ha:Rd .u8 w va b.length (bf b)) (hb:Rd .u8 w vb c.length (bf c)):
  Calls Try.prog 24 #[va,vb] w fun e w'=> e=.returned (.bool (decide (b=c)))∧Below w.heap.size w w':=by
 by_cases hl:b.length=c.length
 ·by_cases he:b=c
  ·rw [decide_eq_true he]
   exact same_yes va vb _ _ _ w ha (hl▸hb) fun i _=> by rw [he]
  ·rw [decide_eq_false he]
   have hn:¬ ∀i,i<b.length→bf b i=bf c i:=fun h=> he (bf_ext hl h)
   obtain ⟨j,hj⟩:=Classical.not_forall.1 hn
   obtain ⟨hj1,hj2⟩:=Classical.not_imp.1 hj
   exact same_no va vb _ _ _ w ha (hl▸hb) j hj1 hj2
 ·rw [decide_eq_false fun e=> hl (by rw [e])]
  exact same_len va vb _ _ _ _ w ha hb hl
section
variable {B : Nat} {w w' : World} {p : Nat} {F : Nat → Prop} {S : TS}
theorem rText_any (h:RsA B w p F S) (hB:B≤w.heap.size) (hok:S.Ok) (b:List Int) (hob:okX b) (v:Value) (hv:Rd .u8 w v b.length (bf b)) (hvb:0<b.length→∀c,v.ownBlock=some c→c<B) (hl:S.l.length≤1000) (hx:S.tx.length≤1000):
  Calls Try.prog 105 #[.pointer (some ⟨p,0,none⟩),v] w fun e w'=> e=.returned (.int .i64 (textA S b))∧∃F',RsA B w' p F' (S.text b)∧Chg F w w'∧∀b,F' b→F b∨w.heap.size≤b:=by
 obtain ⟨vl,vb,tv,h1,h3⟩:=h
 have H:=Lib.hid h1
 have HFF:=Lib.hid h3
 have HBB:=Lib.hid hB
 have HOK:=Lib.hid hok
 have HOB:=Lib.hid hob
 have HV:=Lib.hid hv
 have HVB:=Lib.hid hvb
 have HL:=Lib.hid hl
 have HX:=Lib.hid hx
 clear hvb
 obtain ⟨av,cv,rfl,_⟩:=hv
 obtain ⟨PA,hPA⟩:∃x,x=textA S b:=⟨_,rfl⟩
 obtain ⟨SP,hSP⟩:∃x,x=S.text b:=⟨_,rfl⟩
 rw [←hPA,←hSP]
 have HPA:=Lib.hid hPA
 have HSP:=Lib.hid hSP
 obtain ⟨ab,cb,eb,_⟩:=h1.bs.slice
 have HEB:=Lib.hid eb
 obtain ⟨al,cl,el,_⟩:=h1.ls.slice
 have HEL:=Lib.hid el
 clear h1 h3 hB hok hob hl hx hPA hSP eb el
 go_enter Try.func105,Try.ntmps105
 go_wp2
 go_loopw [5] (fun i wq=> ∃k:Nat,k≤S.tx.length∧i=.int .i64 k∧(∀j,j<k→S.tx[j]?≠some b)∧Below w.heap.size w wq) (fun i _=> S.tx.length - (intOf i).toNat)
 case atStart=> exact ⟨0,Nat.zero_le _,rfl,(fun j hj=> absurd hj (Nat.not_lt_zero _)),Below.refl _ _⟩
 case round=>
  obtain ⟨k,hk,rfl,hno,hBq⟩:=hrel
  have HNO:=Lib.hid hno
  have HBq:=Lib.hid hBq
  have H2:=Lib.hid (H.out.below hBq)
  have c1:=H2.out.c1
  clear hno hBq
  by_cases hlt:k<S.tx.length
  ·obtain ⟨c,hc⟩:∃c,S.tx[k]? =some c:=⟨_,List.getElem?_eq_getElem hlt⟩
   obtain ⟨g,cap,ev,_,_,_,hcc⟩:=H2.out.bs.form (by omega)
   rw [ev] at c1
   have z0:=hcc k hlt 0 (by decide)
   rw [show k * 1+0=k by omega] at z0
   have HTV:=Lib.hid (H2.out.bt k c hc)
   have HC:=Lib.hid hc
   have hk9:(k:Int)<(S.tx.length:Int):=by omega
   have hk8:(k:Int)<1000000:=by have:=HX.out;omega
   have HKL:=Lib.hid hlt
   obtain ⟨u,hu⟩:∃u,u=tv k:=⟨_,rfl⟩
   rw [←hu] at z0 HTV
   clear hc hcc ev hlt hu
   have hk7:=hk9
   go_wp2_with fail
   refine (same_txt _ _ c b wr HTV.out (HV.out.below HBq.out)).mono ?_
   rintro e w3 ⟨rfl,b3⟩
   have HB3:=Lib.hid (HBq.out.trans (b3.mono HBq.out.size))
   have H3:=Lib.hid (H2.out.below b3)
   clear b3
   by_cases hcb:c=b
   ·have hplc:plc S.tx b=k:=by
     subst hcb
     exact plc_at HOK.out.txn HC.out
    have hin:b ∈ S.tx:=hcb▸List.mem_of_getElem? HC.out
    have h9:((9,(k:Int),0):Tm) ∈ S.l:=HOK.out.all k (List.getElem?_eq_some_iff.1 HC.out).1
    have E1:Hid (PA=(plc S.l (9,(k:Int),0):Int)):=Lib.hid (by rw [HPA.out];unfold textA;rw [if_pos hin,hplc])
    have E2:Hid (SP=S):=Lib.hid (by rw [HSP.out];unfold TS.text;rw [if_pos hin])
    have EF:Hid (fidx S.l (9,(k:Int),0)=(plc S.l (9,(k:Int),0):Int)):=Lib.hid (if_pos h9)
    have HOT:Hid (okTm (9,(k:Int),0)):=Lib.hid (H.out.okt _ h9)
    rw [decide_eq_true hcb]
    clear hcb hplc hin h9
    go_wp2_with fail
    refine (rFind_any H3.out (9,(k:Int),0) HOT.out HL.out).mono ?_
    rintro e w4 ⟨rfl,b4⟩
    rw [EF.out]
    have H4:=Lib.hid (H3.out.below b4)
    have HB4:=Lib.hid (HB3.out.trans (b4.mono HB3.out.size))
    clear b4
    go_wp2
    go_ret
    rw [E1.out,E2.out]
    exact ⟨rfl,F,⟨vl,vb,tv,H4.out,HFF.out⟩,.of_below HB4.out _,fun b hb=> .inl hb⟩
   ·have HN2:Hid (∀j,j<k+1→S.tx[j]?≠some b):=fun j hj=> by
     by_cases e:j=k
     ·subst e
      rw [HC.out]
      intro e2
      exact hcb (Option.some.inj e2)
     ·exact HNO.out j (by omega)
    rw [decide_eq_false hcb]
    clear hcb
    go_wp2
    go_roundw
    case rel=> first | exact ⟨k+1,by have:=HKL.out;omega,by go_num,HN2.out,HB3.out⟩ | ((repeat apply Exists.intro);exact ⟨⟨k+1,by have:=HKL.out;omega,by go_num,HN2.out,HB3.out⟩,rfl⟩)
    case measure=> have:=HKL.out;simp [intOf];omega
  ·obtain rfl:k=S.tx.length:=by omega
   have hnin:b ∉ S.tx:=fun hm=> by
    obtain ⟨j,hj,e⟩:=List.mem_iff_getElem.1 hm
    exact HNO.out j hj (by rw [List.getElem?_eq_getElem hj,e])
   have E1:Hid (PA=(S.l.length:Int)):=Lib.hid (by rw [HPA.out];unfold textA;rw [if_neg hnin])
   have E2:Hid (SP=⟨S.l++ [(9,(S.tx.length:Int),0)],S.tx++ [b]⟩):=Lib.hid (by rw [HSP.out];unfold TS.text;rw [if_neg hnin])
   rw [HEB.out] at c1
   clear hlt hnin
   go_wp2_with (first
    | ((refine wpList_append_lit rfl _ _ rfl rfl rfl (HEB.out▸H2.out.bs) Try.underlying35 Try.infoBs rfl rfl rfl (by have:=HX.out;unfold maxLen;omega) (by have:=HX.out;omega) ?_);(intro v6 w6 ho6 hg6 hp6);(obtain ⟨⟨e0,f0⟩,hT7,hC7,hF7⟩:=H2.out.pushV (b0:=b) (Nat.le_trans HBB.out HBq.out.size) HOB.out ho6 rfl (HV.out.below HBq.out) HVB.out (HEB.out▸hg6) (HEB.out▸hp6));(rw [HEB.out] at e0);(have T7:=Lib.hid hT7);(have C7:Hid (Chg F w _):=Lib.hid ((Chg.of_below HBq.out F).trans (hC7.mono (G:=F) fun b _ hb=> (HFF.out b).2 (hb.elim .inl fun h=> .inr (.inr h))) fun _ _ h=> h));(have F7:Hid (∀c,v6.ownBlock=some c→vb.ownBlock=some c∨w.heap.size≤c):=Lib.hid fun c hc=> (hF7 c hc).imp id fun h=> Nat.le_trans HBq.out.size h);(obtain ⟨a6,q6,rfl,_⟩:=ho6.slice);clear ho6 hg6 hp6 hT7 hC7 hF7 c1)
    | fail)
   refine wp_world (fun w7=> Rst B w7 p vl (.slice a6 (S.tx.length+1) q6) (fun j=> if j=S.tx.length then .slice av b.length cv else tv j) S.l (S.tx++ [b])∧Chg F w w7) ⟨T7.out,C7.out⟩ ?_
   rintro w7 ⟨hT8,hC8⟩
   have T8:=Lib.hid hT8
   have C8:=Lib.hid hC8
   have HOT:Hid (okTm (9,(S.tx.length:Int),0)):=Lib.hid ⟨⟨by simp,by simp⟩,⟨by simp only;have:=HX.out;omega,by simp only;have:=HX.out;omega⟩,⟨by simp,by simp⟩⟩
   have hwr:IntKind.i64.wrap (S.tx.length:Int)=(S.tx.length:Int):=wrap_i64_id (by omega) (by have:=HX.out;omega)
   clear hT8 hC8 e0 f0
   apply region_early' (n:=60) [.f,.e,.e,.e,.e,.e,.e,.e,.e,.e,.e,.e,.c,.c,.f,.f,.c] 1 (by kernel_rfl) (by kernel_rfl) (by kernel_rfl) rfl
   ·intro w9 hB9
    have c0:=(T8.out.below hB9).c0
    have c1:=(T8.out.below hB9).c1
    rw [HEL.out] at c0
    simp only [selBy,Cl.isE,cond_true,cond_false]
    repeat still_step
    exact wpStill_nil rfl
   ·intro w9
    simp only [selBy,Cl.isF,cond_true,cond_false]
    repeat still_step
    exact wpStill_nil rfl
   ·simp only [selBy,Cl.isC,cond_true,cond_false]
    refine chW_step ((Below.refl _ _).drew) (fun K hK=> ?_)
    rw [if_pos (wanted_none rfl)]
    refine wp_buildS 93 97 1 _ rfl Try.underlying93 (rowV 3 (fun i=> .int .i64 (tf (9,(S.tx.length:Int),0) i))) (by kernel_rfl) (hK _ _ (((Below.refl _ _).drew).alloc (Nat.le_refl _) _) (chW_zero ?_))
    clear hK K
    have H9:=Lib.hid (T8.out.below ((Below.refl w7.heap.size w7).drew))
    refine wpList_append_row (w0:=w7.drew) rfl _ _ rfl rfl rfl (HEL.out▸H9.out.ls) (by decide) Try.underlying93 Try.infoTm rfl rfl (fun i _=> rfl) (by have:=HL.out;unfold maxLen;omega) (by have:=HL.out;omega) ?_
    intro v4 w4 ho4 hg4 hp4
    obtain ⟨⟨e0,f0⟩,hT5,hC5,hF5⟩:=H9.out.pushL (t:=(9,(S.tx.length:Int),0)) (Nat.le_trans HBB.out C8.out.size) HOT.out ho4 (fun _=> rfl) (HEL.out▸hg4) (HEL.out▸hp4)
    rw [HEL.out] at e0
    have k0:=hT5.c0
    have T5:=Lib.hid hT5
    have C5:Hid (Chg F w _):=Lib.hid ((C8.out.trans (Chg.of_below ((Below.refl w7.heap.size w7).drew) (fun _=> False)) fun _ _ h=> h.elim).trans (hC5.mono (G:=F) fun b _ hb=> (HFF.out b).2 (hb.elim .inl fun h=> .inr (.inl h))) fun _ _ h=> h)
    have F5:Hid (∀c,RF p v4 (.slice a6 (S.tx.length+1) q6) c→F c∨w.heap.size≤c):=Lib.hid fun c hc=> by
     rcases hc with h | h | h
     ·exact .inl ((HFF.out c).2 (.inl h))
     ·exact (hF5 c h).imp (fun h=> (HFF.out c).2 (.inr (.inl h))) fun h=> Nat.le_trans C8.out.size h
     ·exact (F7.out c h).imp (fun h=> (HFF.out c).2 (.inr (.inr h))) id
    obtain ⟨a4,q4,rfl,_⟩:=ho4.slice
    clear ho4 hg4 hp4 hT5 hC5 hF5
    go_wp2
    refine onlyN ?_
    clear e0 f0
    go_wp2
    go_ret
    rw [E1.out,E2.out]
    exact ⟨by simp,_,⟨_,_,_,T5.out,fun b=> Iff.rfl⟩,C5.out,F5.out⟩
end
end Go.Proofs.Ytlmdgmgbijfaoaa
namespace Go.Bas
def yesL (h:Nat→Bool) (k:Nat):List Int:=List.map (fun n:Nat=> (n:Int)) (List.filter h (List.range k))
theorem yesL_succ (h:Nat→Bool) (k:Nat):yesL h (k+1)=if h k=true then yesL h k++ [(k:Int)] else yesL h k:=by
 unfold yesL
 rw [List.range_succ,List.filter_append,List.map_append]
 cases hk:h k with
 | true=> simp [hk]
 | false=> simp [hk]
theorem yesL_le (h:Nat→Bool) (k:Nat):(yesL h k).length≤k:=by
 unfold yesL
 rw [List.length_map]
 exact Nat.le_trans (List.length_filter_le _ _) (Nat.le_of_eq List.length_range)
theorem yesL_mem {h:Nat→Bool} {k:Nat} {x:Int}:x ∈ yesL h k ↔ ∃n:Nat,x=n∧n<k∧h n=true:=by
 unfold yesL
 rw [List.mem_map]
 constructor
 ·rintro ⟨n,hn,rfl⟩
  rw [List.mem_filter,List.mem_range] at hn
  exact ⟨n,rfl,hn⟩
 ·rintro ⟨n,rfl,h1,h2⟩
  exact ⟨n,by rw [List.mem_filter,List.mem_range];exact ⟨h1,h2⟩,rfl⟩
end Go.Bas
namespace Go.Proofs.Ytlmdgmgbijfaoaa
open Go.RowKit Go.Bas Go.ChangeShapes Go.Maps
attribute [local go_sem ↓] Go.wp_at_zero Go.wp_at_succ
section
variable {w w' : World} {p : Nat} {vl vh vm : Value} {l : List Tm} {h m : Nat → Bool}
theorem kCount_nil (w:World):Calls Try.prog 73 #[.pointer none] w fun e w'=> e=.returned (.tuple #[natV 0,natV 0])∧w'=w:=by
 go_enter Try.func73,Try.ntmps73
 go_wp2
 go_ret2
 exact ⟨rfl,rfl⟩
theorem kList_nil (w:World):Calls Try.prog 74 #[.pointer none] w fun e w'=> e=.returned (.slice none 0 0)∧w'=w:=by
 go_enter Try.func74,Try.ntmps74
 go_wp2
 go_ret
 exact ⟨rfl,rfl⟩
theorem kList_any (k:Knm w p vl vh vm l h m) (hlen:l.length≤1000):Calls Try.prog 74 #[.pointer (some ⟨p,0,none⟩)] w fun e w'=> ∃v,e=.returned v∧OwM 3 1 w' v (yesL h l.length).length (lv kvI (yesL h l.length))∧Below w.heap.size w w':=by
 have K:=Lib.hid k
 have HL:=Lib.hid hlen
 have c1:=k.c1
 obtain ⟨ah,ch,eh,_⟩:=k.hs.slice
 rw [eh] at c1
 have EH:=Lib.hid eh
 clear k eh hlen
 go_enter Try.func74,Try.ntmps74
 go_wp2
 go_loopw [3,13] (fun v i wr=> ∃k:Nat,k≤l.length∧i=.int .i64 k∧OwM 3 1 wr v (yesL h k).length (lv kvI (yesL h k))∧(∀b,v.ownBlock=some b→w.heap.size≤b)∧Below w.heap.size w wr) (fun v i _=> l.length - (intOf i).toNat)
 case atStart=> exact ⟨0,Nat.zero_le _,rfl,OwM.nil _ _ _ _,fun b hb=> (by cases hb),Below.refl _ _⟩
 case round=>
  obtain ⟨k,hk,rfl,hv,hvb,hbe⟩:=hrel
  have HV:=Lib.hid hv
  have HVB:=Lib.hid hvb
  have HBE:=Lib.hid hbe
  have HS1:=Lib.hid (yesL_succ h k)
  have HY:=Lib.hid (yesL_le h k)
  clear hv hvb hbe
  by_cases hlt:k<l.length
  ·obtain ⟨gh,ch',eh',_,_,_,zh,_⟩:=(K.out.below HBE.out).hs.one1 hlt
   obtain ⟨rfl,rfl⟩:ah=some ⟨gh,0,none⟩∧ch=ch':=by
    have:=EH.out.symm.trans eh'
    cases this
    exact ⟨rfl,rfl⟩
   have hk9:(k:Int)<(l.length:Int):=by omega
   have hk8:(k:Int)<1000000:=by have:=HL.out;omega
   have hkl:=Lib.hid hlt
   clear eh' hlt
   cases hh:h k with
   | true=>
    have HA:Hid (yesL h (k+1)=yesL h k++ [(k:Int)]):=Lib.hid (by rw [HS1.out,if_pos hh])
    simp only [bv,hh] at zh
    go_wp2_with (refine wpList_append_lit rfl _ _ rfl rfl rfl HV.out Try.underlying56 Try.info3 rfl rfl rfl (by have:=HY.out;have:=HL.out;unfold maxLen;omega) (by have:=HY.out;have:=HL.out;omega) ?_;intro v2 w2 ho2 hg2 hp2;have O2:=Lib.hid ho2;have C2:=Lib.hid (Chg.of_lit hg2);have P2:=Lib.hid hp2;clear ho2 hg2 hp2)
    have B2:=Lib.hid (HBE.out.trans (C2.out.below HBE.out.size HVB.out))
    go_roundw
    case rel=> exact ⟨k+1,by have:=hkl.out;omega,by go_num,by rw [HA.out];exact O2.out.snoc rfl,fun b hb=> P2.out.elim (fun e=> HVB.out b (e▸hb)) fun h=> Nat.le_trans HBE.out.size (h b hb),B2.out⟩
    case measure=> have:=hkl.out;simp [intOf];omega
   | false=>
    have HA:Hid (yesL h (k+1)=yesL h k):=Lib.hid (by rw [HS1.out,if_neg (by rw [hh];decide)])
    simp only [bv,hh] at zh
    go_wp2
    go_roundw
    case rel=> exact ⟨k+1,by have:=hkl.out;omega,by go_num,by rw [HA.out];exact HV.out,HVB.out,HBE.out⟩
    case measure=> have:=hkl.out;simp [intOf];omega
  ·obtain rfl:k=l.length:=by omega
   clear hlt
   go_wp2
   go_ret
   exact ⟨_,rfl,HV.out,HBE.out⟩
end
end Go.Proofs.Ytlmdgmgbijfaoaa
