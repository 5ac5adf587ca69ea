/-
  Part 15 of the texts that the proof of TermOnce rests on, one after the other. Conditions: named in each theorem.
-/
import Derived.Test.YtlmdgmgbijfaoaaPkTermOnce13
import Derived.Test.YtlmdgmgbijfaoaaPkTermOnce1
import Derived.Test.YtlmdgmgbijfaoaaPkTermOnce2
import Derived.Test.YtlmdgmgbijfaoaaPkTermOnce11
import Derived.Test.YtlmdgmgbijfaoaaPkTermOnce5
import Derived.Test.YtlmdgmgbijfaoaaPkTermOnce3
import Derived.Test.YtlmdgmgbijfaoaaPkTermOnce4
import Derived.Test.YtlmdgmgbijfaoaaPkTermOnce6
import Derived.Test.YtlmdgmgbijfaoaaPkTermOnce7
import Derived.Test.YtlmdgmgbijfaoaaPkTermOnce10
import Derived.Test.YtlmdgmgbijfaoaaPkTermOnce9
import Derived.Test.YtlmdgmgbijfaoaaPkTermOnce8
import Derived.Test.YtlmdgmgbijfaoaaPkTermOnce12
import Derived.Test.YtlmdgmgbijfaoaaPkTermOnce14
import Derived.BigFrame
import Derived.BigQuiet
import Derived.ChangeKeysEq
import Derived.ChangeMaps5
import Derived.ChangeOld
import Derived.Deep.Cut
import Derived.Deep.DrawnRows
import Derived.Deep.MidRow
import Derived.Deep.QuietTactic
import Derived.Deep.RegionHeld3
import Derived.Deep.RegionLaw
import Derived.Deep.Slices
import Derived.Deep.Strs
import Derived.Deep.Upon
import Derived.Deep.WholeRow
import Derived.DeepKeys4
import Derived.Great.BuildSlice
import Derived.Great.Walk
import Derived.Laws.BytesArg
import Derived.Laws.CopyOwn
import Derived.Laws.IdiomCopy
import Derived.Laws.Strings
import Derived.Laws.StructEq
import Derived.Lib.BufferRead
import Derived.Lib.Hide
import Derived.MapViews
import Derived.Maps.AppendAt
import Derived.Maps.OwnSet
import Derived.Maps.Range
import Derived.Maps.Views
import Derived.OpenShut
import Derived.Orders
import Derived.ProofKit
import Derived.ShutString
import Derived.StillTactics
import Derived.Test.YtlmdgmgbijfaoaaArr
import Derived.Test.YtlmdgmgbijfaoaaFlow
import Derived.Test.YtlmdgmgbijfaoaaKit
import Derived.Test.YtlmdgmgbijfaoaaOpen
import Derived.Test.YtlmdgmgbijfaoaaOpenT
import Derived.Test.YtlmdgmgbijfaoaaRows
import Derived.Test.YtlmdgmgbijfaoaaTxt
import Derived.WalkKit
import Derived.WalkLawsBesides
import Derived.WalkSmall
import Derived.WalkSpells
set_option linter.unusedVariables false
set_option linter.unusedSimpArgs false
set_option maxRecDepth 100000
set_option maxHeartbeats 1600000
namespace Go.Proofs.Ytlmdgmgbijfaoaa
open Go.RowKit Go.Bas Go.ChangeShapes Go.Maps
attribute [local go_sem ↓] Go.wp_at_zero Go.wp_at_succ
section
variable {B : Nat} {w w' : World} {p mb mt : Nat} {vl vb : Value} {tv : Nat → Value} {S : TS}
theorem tDraw_any {F:Nat→Prop} (h:StA B w p F S) (hB:B≤w.heap.size) (s:Int) (hl:S.l.length≤1000):
  Calls Try.prog 63 #[.pointer (some ⟨p,0,none⟩),.int .i64 s] w fun e w'=> e=.returned (.tuple #[.int .i64 (drawA S s).1,.int .i64 (drawA S s).2])∧∃F',StA B w' p F' (S.draw s)∧Chg F w w'∧∀b,F' b→F b∨w.heap.size≤b:=by
 obtain ⟨mb,mt,vl,vb,tv,h1,h2,h3⟩:=h
 have H:=Lib.hid h1
 have HOK:=Lib.hid h2
 have HFF:=Lib.hid h3
 have HBB:=Lib.hid hB
 have HL:=Lib.hid hl
 obtain ⟨PA,hPA⟩:∃x,x=drawA S s:=⟨_,rfl⟩
 obtain ⟨SP,hSP⟩:∃x,x=S.draw s:=⟨_,rfl⟩
 rw [←hPA,←hSP]
 have HPA:=Lib.hid hPA
 have HSP:=Lib.hid hSP
 clear h1 h2 h3 hB hl hPA hSP
 go_enter Try.func63,Try.ntmps63
 go_wp2_with fail
 refine (tIs_any H.out).mono ?_
 rintro e w1' ⟨rfl,rfl⟩
 go_wp2_with fail
 refine (tSort_any s _).mono ?_
 rintro e w1 ⟨rfl,rfl⟩
 cases hm:isSort s with
 | false=>
  have E1:Hid (PA=(0,2)):=Lib.hid (by rw [HPA.out];unfold drawA;rw [if_neg (by rw [hm];decide)])
  have E2:Hid (SP=S):=Lib.hid (by rw [HSP.out];unfold TS.draw;rw [if_neg (fun h=> by rw [hm] at h;cases h.1)])
  clear hm
  go_wp2
  go_ret2
  rw [E1.out,E2.out]
  exact ⟨rfl,F,⟨mb,mt,vl,vb,tv,H.out,HOK.out,HFF.out⟩,.refl _ _,fun b hb=> .inl hb⟩
 | true=>
  have hs:=hm
  simp only [isSort,Bool.and_eq_true,decide_eq_true_eq] at hs
  obtain ⟨k,rfl⟩:=Int.eq_ofNat_of_zero_le (show 0≤s by omega)
  have hk5:k<5:=by omega
  have hk9:(k:Int)<5:=by omega
  have z0:=H.out.nx k hk5
  have HTOP:=Lib.hid (nxt_top S.l k)
  have HNN:=Lib.hid (nxt_nonneg S.l k)
  by_cases hx:nxt S.l k≤topT
  ·have E1:Hid (PA=((S.l.length:Int),0)):=Lib.hid (by rw [HPA.out];unfold drawA;rw [if_pos hm,if_pos hx])
   have E2:Hid (SP=S.add (1,(k:Int),nxt S.l k)):=Lib.hid (by rw [HSP.out];unfold TS.draw;rw [if_pos ⟨hm,hx⟩])
   have HNEW:=Lib.hid (nxt_new hx)
   have OK2:Hid ((S.add (1,(k:Int),nxt S.l k)).Ok):=Lib.hid (HOK.out.add HNEW.out (.inl ⟨rfl,hs,HNN.out⟩))
   have HS:=Lib.hid hs
   have hgt:¬ (4611686018427387904:Int)<nxt S.l k:=by unfold topT at hx;omega
   obtain ⟨X,hX⟩:∃X,X=nxt S.l k:=⟨_,rfl⟩
   have HXT:Hid (0≤X∧X≤4611686018427387904):=Lib.hid (by rw [hX];exact ⟨HNN.out,by unfold topT at hx;exact hx⟩)
   rw [←hX] at z0 E2 HNEW OK2 hgt
   clear hm hs hx hX
   go_wp2_with fail
   refine (tAdd_any H.out HBB.out (1,(k:Int),X) ⟨⟨by simp,by simp⟩,⟨by simp only;omega,by simp only;omega⟩,⟨by simp only;have:=HXT.out;omega,by simp only;have:=HXT.out;omega⟩⟩ HNEW.out (fun _=> HS.out) HL.out).mono ?_
   rintro e w4 ⟨rfl,vl',h4,hc4,hf4⟩
   have S4:Hid (StA B w4 p (TF p mb mt vl' vb S.tx.length tv) (S.add (1,(k:Int),X))):=Lib.hid ⟨mb,mt,vl',vb,tv,h4,OK2.out,fun b=> Iff.rfl⟩
   have C4:Hid (Chg F w1 w4):=Lib.hid (hc4.mono (G:=F) fun b _ hb=> (HFF.out b).2 (by
    rcases hb with h | h | h
    ·exact .inl h
    ·exact .inr (.inl h)
    ·exact .inr (.inr (.inr (.inl h)))))
   have F4:Hid (∀b,TF p mb mt vl' vb S.tx.length tv b→F b∨w1.heap.size≤b):=Lib.hid fun b hb=> (TF.add (N:=w1.heap.size) hf4 b hb).imp (HFF.out b).2 id
   clear h4 hc4 hf4
   go_wp2
   go_ret2
   rw [E1.out,E2.out]
   exact ⟨rfl,_,S4.out,C4.out,F4.out⟩
  ·have E1:Hid (PA=(0,3)):=Lib.hid (by rw [HPA.out];unfold drawA;rw [if_pos hm,if_neg hx])
   have E2:Hid (SP=S):=Lib.hid (by rw [HSP.out];unfold TS.draw;rw [if_neg (fun h=> hx h.2)])
   have hgt:(4611686018427387904:Int)<nxt S.l k:=by unfold topT at hx;omega
   clear hm hs hx
   go_wp2
   go_ret2
   rw [E1.out,E2.out]
   exact ⟨rfl,F,⟨mb,mt,vl,vb,tv,H.out,HOK.out,HFF.out⟩,.refl _ _,fun b hb=> .inl hb⟩
end
section
variable {B : Nat} {w w' : World} {p : Nat} {F : Nat → Prop} {S : TS}
theorem tPut_nil (w:World) (t:Tm):Calls Try.prog 62 #[.pointer none,tmV t] w fun e w'=> e=.returned (.tuple #[.int .i64 0,.int .i64 1])∧Below w.heap.size w w':=by
 go_enter Try.func62,Try.ntmps62
 go_upto_region 1 with (fail)
 refine wp_world (fun w1=> Below w.heap.size w w1) ((Below.refl _ _).alloc (Nat.le_refl _) _) ?_
 rintro w1 b1
 go_wp2_with fail
 refine (tIs_nil w1).mono ?_
 rintro e w' ⟨rfl,rfl⟩
 go_wp2
 go_ret2
 exact ⟨rfl,b1⟩
theorem tDraw_nil (w:World) (s:Int):Calls Try.prog 63 #[.pointer none,.int .i64 s] w fun e w'=> e=.returned (.tuple #[.int .i64 0,.int .i64 1])∧w'=w:=by
 go_enter Try.func63,Try.ntmps63
 go_wp2_with fail
 refine (tIs_nil _).mono ?_
 rintro e w' ⟨rfl,rfl⟩
 go_wp2
 go_ret2
 exact ⟨rfl,rfl⟩
theorem tText_nil (w:World) (a:Option Addr) (n c:Nat):Calls Try.prog 64 #[.pointer none,.slice a n c] w fun e w'=> e=.returned (.tuple #[.int .i64 0,.int .i64 1])∧w'=w:=by
 go_enter Try.func64,Try.ntmps64
 go_wp2_with fail
 refine (tIs_nil _).mono ?_
 rintro e w' ⟨rfl,rfl⟩
 go_wp2
 go_ret2
 exact ⟨rfl,rfl⟩
def getA (S:TS) (n:Int):Tm × Bool:=if 0≤n then (match S.l[n.toNat]? with | some t=> (t,true) | none=> ((0,0,0),false)) else ((0,0,0),false)
theorem getA_yes {n:Nat} {t:Tm} (h:S.l[n]? =some t):getA S n=(t,true):=by
 unfold getA
 rw [if_pos (by omega),Int.toNat_natCast,h]
theorem getA_no {n:Int} (h:hasT S.l n 0=false):getA S n=((0,0,0),false):=by
 unfold getA
 split
 ·rename_i h0
  split
  ·rename_i t ht
   obtain ⟨a,rfl⟩:=Int.eq_ofNat_of_zero_le h0
   rw [Int.toNat_natCast] at ht
   rw [hasT_iff.2 ⟨a,rfl,t,ht,.inl rfl⟩] at h
   cases h
  ·rfl
 ·rfl
theorem tGet_any (h:StA B w p F S) (n:Int):Calls Try.prog 58 #[.pointer (some ⟨p,0,none⟩),.int .i64 n] w fun e w'=> e=.returned (.tuple #[tmV (getA S n).1,.bool (getA S n).2])∧Below w.heap.size w w':=by
 obtain ⟨mb,mt,vl,vb,tv,h1,h2,h3⟩:=h
 have H:=Lib.hid h1
 obtain ⟨G,hG⟩:∃x,x=getA S n:=⟨_,rfl⟩
 rw [←hG]
 have HG:=Lib.hid hG
 clear h1 h2 h3 hG
 go_enter Try.func58,Try.ntmps58
 go_upto_region 1 with (fail)
 refine wp_world (fun w1=> Arr .i64 w1 w.heap.size 3 (fun _=> 0)∧Below w.heap.size w w1) ⟨Arr.newAt rfl rfl,(Below.refl _ _).alloc (Nat.le_refl _) _⟩ ?_
 rintro w1 ⟨hA1,bb1⟩
 have HA1:=Lib.hid hA1
 have B1:=Lib.hid bb1
 have H1:=Lib.hid (H.out.below bb1)
 clear hA1 bb1
 go_wp2_with fail
 refine (tIs_any H1.out).mono ?_
 rintro e w1' ⟨rfl,rfl⟩
 go_wp2_with fail
 refine (tHas_any H1.out n 0).mono ?_
 rintro e w2 ⟨rfl,rfl⟩
 cases hm:hasT S.l n 0 with
 | false=>
  have E1:Hid (G=((0,0,0),false)):=Lib.hid (HG.out.trans (getA_no hm))
  obtain ⟨t1,ht1⟩:=HA1.out
  have HT1:=Lib.hid ht1
  clear hm ht1
  go_wp2_with (refine store_rowV rfl 97 _ _ rfl w.heap.size 3 (fun i=> .int .i64 (tf (0,0,0) i)) _ t1 HT1.out rfl Try.sizeTm rfl rfl (fun i _=> rfl) ?_)
  have HA2:Hid (Arr .i64 (w2.setRow w.heap.size (rowV 3 fun i=> .int .i64 (tf (0,0,0) i))) w.heap.size 3 (tf (0,0,0))):=Lib.hid (HA1.out.setRow 3 (tf (0,0,0)))
  have B2:Hid (Below w.heap.size w (w2.setRow w.heap.size (rowV 3 fun i=> .int .i64 (tf (0,0,0) i)))):=Lib.hid (below_setRow' B1.out (Nat.le_refl _) _)
  rw [E1.out]
  refine bodyPost_ret (results_str2 rfl _ _ .i64 w.heap.size 3 _ rfl HA2.out Try.underlying97 rfl Try.sizeTm) rfl ?_
  exact ⟨rfl,B2.out⟩
 | true=>
  obtain ⟨a,rfl,ha,_⟩:=hasT_lt hm
  obtain ⟨t,ht⟩:∃t,S.l[a]? =some t:=⟨_,List.getElem?_eq_getElem ha⟩
  have E1:Hid (G=(t,true)):=Lib.hid (HG.out.trans (getA_yes ht))
  obtain ⟨t1,ht1⟩:=HA1.out
  have HT1:=Lib.hid ht1
  have c0:=H1.out.c0
  obtain ⟨g,cap,ev,_,_,_,hc⟩:=H1.out.ls.form (by omega)
  have HC:Hid (∀i,i<3→w2.cell? ⟨g,a * 3+i,none⟩=some (.int .i64 (tf t i))):=Lib.hid fun i hi=> (hc a ha i hi).trans (congrArg some (tmv_at ht))
  rw [ev] at c0
  have h9:(a:Int)<(S.l.length:Int):=by omega
  clear hm ht1 ha ht hc ev
  go_wp2_with (first
   | (refine load_row (y:=fun i=> .int .i64 (tf t i)) rfl rfl rfl Try.underlying97 rfl Try.sizeTm HC.out ?_)
   | (refine store_rowV rfl 97 _ _ rfl w.heap.size 3 (fun i=> .int .i64 (tf t i)) _ t1 HT1.out rfl Try.sizeTm rfl rfl (fun i _=> rfl) ?_))
  have HA2:Hid (Arr .i64 (w2.setRow w.heap.size (rowV 3 fun i=> .int .i64 (tf t i))) w.heap.size 3 (tf t)):=Lib.hid (HA1.out.setRow 3 (tf t))
  have B2:Hid (Below w.heap.size w (w2.setRow w.heap.size (rowV 3 fun i=> .int .i64 (tf t i)))):=Lib.hid (below_setRow' B1.out (Nat.le_refl _) _)
  rw [E1.out]
  refine bodyPost_ret (results_str2 rfl _ _ .i64 w.heap.size 3 _ rfl HA2.out Try.underlying97 rfl Try.sizeTm) rfl ?_
  exact ⟨rfl,B2.out⟩
end
end Go.Proofs.Ytlmdgmgbijfaoaa
namespace Go.Bas
open Go.RowKit
theorem Rd.chgY {F:Nat→Prop} {w w':World} {k:IntKind} {v:Value} {n:Nat} {f:Nat→Int} (h:Rd k w v n f) (hg:Chg F w w') (hne:0<n→∀b,v.ownBlock=some b→¬ F b):Rd k w' v n f:=by
 obtain ⟨a,c,rfl,h1,h2,h3,h4⟩:=h
 refine ⟨a,c,rfl,h1,h2,h3,fun hn=> ?_⟩
 obtain ⟨b,o,rfl,hlt,hc⟩:=h4 hn
 have:=hg.size
 exact ⟨b,o,rfl,by omega,fun i hi=> (hg.cell (p:=⟨b,o+i,none⟩) hlt (hne hn b rfl)).trans (hc i hi)⟩
end Go.Bas
namespace Go.Proofs.Ytlmdgmgbijfaoaa
open Go.RowKit Go.Bas Go.ChangeShapes Go.Maps
attribute [local go_sem ↓] Go.wp_at_zero Go.wp_at_succ
section
variable {B : Nat} {w w' : World} {p mb mt : Nat} {vl vb : Value} {tv : Nat → Value} {S : TS}
theorem Tst.ofText {b:List Int} {vl' vb':Value} {tv':Nat→Value} (h:Tst B w p mb mt vl vb tv S) (hob:okX b) (hn:b ∉ S.tx) (h9:((9,(S.tx.length:Int),0):Tm) ∉ S.l) (hlen:S.tx.length≤1000000) {nf:Nat→Int} (hp:Tsp B w' p mb mt vl' vb' tv' (S.l++ [(9,(S.tx.length:Int),0)]) (S.l++ [(9,(S.tx.length:Int),0)]) (S.tx++ [b]) (S.tx++ [b]) (txN (S.text b)) nf) (hf:∀k:Nat,k<5→nf k=nxt S.l k):Tst B w' p mb mt vl' vb' tv' (S.text b):=by
 have hS:S.text b=⟨S.l++ [(9,(S.tx.length:Int),0)],S.tx++ [b]⟩:=if_neg hn
 rw [hS] at hp ⊢
 refine ⟨⟨hp.row,hp.c0,hp.c1,hp.c2,hp.c3,fun k hk=> (hp.nx k hk).trans (by rw [hf k hk,nxt_snoc,if_neg (fun h=> by have:=h.1;simp at this)]),hp.ls,hp.am,hp.xm,hp.bs,hp.bt,hp.ne,hp.hp,hp.hb,hp.hm,hp.hl,hp.hv⟩,nodup_snoc h.nd h9,nodup_snoc h.txn hn,fun j hj=> ?_,fun u hu=> ?_,fun u hu=> ?_⟩
 ·have hj:j<(S.tx++ [b]).length:=hj
  rw [List.length_append,List.length_singleton] at hj
  refine List.mem_append.2 ?_
  by_cases h':j<S.tx.length
  ·exact .inl (h.all j h')
  ·exact .inr (by rw [show j=S.tx.length by omega];simp)
 ·rcases List.mem_append.1 hu with hu | hu
  ·exact h.okt u hu
  ·rw [List.mem_singleton.1 hu]
   exact ⟨⟨by simp,by simp⟩,⟨by simp only;omega,by simp only;omega⟩,⟨by simp,by simp⟩⟩
 ·rcases List.mem_append.1 hu with hu | hu
  ·exact h.okx u hu
  ·rw [List.mem_singleton.1 hu];exact hob
theorem txN_new {b:List Int} (h:S.l.Nodup) (hx:S.tx.Nodup) (hn:b ∉ S.tx) (h9:((9,(S.tx.length:Int),0):Tm) ∉ S.l):txN (S.text b) b=S.l.length:=by
 have hS:S.text b=⟨S.l++ [(9,(S.tx.length:Int),0)],S.tx++ [b]⟩:=if_neg hn
 rw [hS]
 unfold txN
 have e1:plc (S.tx++ [b]) b=S.tx.length:=plc_at (nodup_snoc hx hn) (by rw [List.getElem?_append_right (Nat.le_refl _),Nat.sub_self];rfl)
 simp only [e1]
 exact plc_at (nodup_snoc h h9) (by rw [List.getElem?_append_right (Nat.le_refl _),Nat.sub_self];rfl)
theorem txN_old {b y:List Int} (hx:S.tx.Nodup) (hn:b ∉ S.tx) (hy:y ∈ S.tx):txN (S.text b) y=txN (S.add (9,(S.tx.length:Int),0)) y:=by
 have hS:S.text b=⟨S.l++ [(9,(S.tx.length:Int),0)],S.tx++ [b]⟩:=if_neg hn
 rw [hS]
 unfold txN
 simp only [plc_prefix (nodup_snoc hx hn) (List.prefix_append _ _) hy]
 rfl
theorem tText_any {F:Nat→Prop} (h:StA B w p F S) (hB:B≤w.heap.size) (b:List Int) (hob:okX b) (v:Value) (hv:Rd .u8 w v b.length (bf b)) (hvF:0<b.length→∀c,v.ownBlock=some c→¬ F c) (hl:S.l.length≤1000) (hx:S.tx.length≤1000):
  Calls Try.prog 64 #[.pointer (some ⟨p,0,none⟩),v] w fun e w'=> e=.returned (.tuple #[.int .i64 (textA S b),.int .i64 0])∧∃F',StA B w' p F' (S.text b)∧Chg F w w'∧∀b,F' b→F b∨w.heap.size≤b:=by
 obtain ⟨mb,mt,vl,vb,tv,h1,h2,h3⟩:=h
 have H:=Lib.hid h1
 have HOK:=Lib.hid h2
 have HFF:=Lib.hid h3
 have HBB:=Lib.hid hB
 have HL:=Lib.hid hl
 have HX:=Lib.hid hx
 have HOB:=Lib.hid hob
 have HV:=Lib.hid hv
 have HVF:=Lib.hid hvF
 clear hvF
 obtain ⟨av,cv,rfl,_⟩:=hv
 obtain ⟨PA,hPA⟩:∃x,x=textA S b:=⟨_,rfl⟩
 obtain ⟨SP,hSP⟩:∃x,x=S.text b:=⟨_,rfl⟩
 rw [←hPA,←hSP]
 have HPA:=Lib.hid hPA
 have HSP:=Lib.hid hSP
 have h9:¬ (1048576:Int)<(b.length:Int):=by have:=hob.2;omega
 clear h1 h2 h3 hB hl hx hob hPA hSP
 go_enter Try.func64,Try.ntmps64
 go_wp2_with fail
 refine (tIs_any H.out).mono ?_
 rintro e w1 ⟨rfl,rfl⟩
 go_upto_region 5 with (fail)
 have c2:=H.out.c2
 clear h9
 by_cases hin:b ∈ S.tx
 ·have E1:Hid (PA=(txN S b:Int)):=Lib.hid (by rw [HPA.out];unfold textA;rw [if_pos hin];rfl)
  have E2:Hid (SP=S):=Lib.hid (by rw [HSP.out];unfold TS.text;rw [if_pos hin])
  have l1:∀n,(Instr.lookup 157 (.map (some mt)) (.string (strOf b.length (bf b))) true).run Try.prog (w1.drewN n)=.ok (.tuple #[natV (txN S b),.bool true]) (w1.drewN n):=fun n=> keyTx.lookYes (H.out.below (Go.Bas.below_drewN (Below.refl _ _) n)).xm hin
  obtain ⟨X,hX⟩:∃X,X=txN S b:=⟨_,rfl⟩
  rw [←hX] at l1 E1
  clear hin hX
  refine wp_region_quiet_lit (by kernel_rfl) (by kernel_rfl) ?_
  repeat (first | (refine quiet_val rfl (fun n=> run_conv_rd rfl rfl (HV.out.below (Go.Bas.below_drewN (Below.refl _ _) n)) Try.underlying23 Try.underlying5 Try.underlying9 HOB.out.1.at) ?_) | quiet_step (fail))
  refine wpQuiet_nil ?_
  rintro _ ⟨nq,rfl⟩
  go_wp2
  go_ret2
  rw [E1.out,E2.out]
  exact ⟨rfl,F,⟨mb,mt,vl,vb,tv,H.out.below (Go.Bas.below_drewN (Below.refl _ _) nq),HOK.out,HFF.out⟩,.of_below (Go.Bas.below_drewN (Below.refl _ _) nq) _,fun b hb=> .inl hb⟩
 ·have E1:Hid (PA=(S.l.length:Int)):=Lib.hid (by rw [HPA.out];unfold textA;rw [if_neg hin])
  have l1:∀n,(Instr.lookup 157 (.map (some mt)) (.string (strOf b.length (bf b))) true).run Try.prog (w1.drewN n)=.ok (.tuple #[.int .i64 0,.bool false]) (w1.drewN n):=fun n=> keyTx.lookNo (H.out.below (Go.Bas.below_drewN (Below.refl _ _) n)).xm H.out.okx HOB.out hin
  have HIN:=Lib.hid hin
  clear hin
  refine wp_region_quiet_lit (by kernel_rfl) (by kernel_rfl) ?_
  repeat (first | (refine quiet_val rfl (fun n=> run_conv_rd rfl rfl (HV.out.below (Go.Bas.below_drewN (Below.refl _ _) n)) Try.underlying23 Try.underlying5 Try.underlying9 HOB.out.1.at) ?_) | quiet_step (fail))
  refine wpQuiet_nil ?_
  rintro _ ⟨nq,rfl⟩
  clear l1 c2
  have B3:=Lib.hid (Go.Bas.below_drewN (Below.refl w1.heap.size w1) nq)
  have H3:=Lib.hid (H.out.below B3.out)
  have HN9:=Lib.hid HOK.out.fresh9
  have c3:=H3.out.c3
  obtain ⟨ab,cb,eb,_⟩:=H3.out.bs.slice
  have HEB:=Lib.hid eb
  rw [eb] at c3
  clear eb
  go_wp2_with fail
  refine (tAdd_any H3.out (Nat.le_trans HBB.out B3.out.size) (9,(S.tx.length:Int),0) ⟨⟨by simp,by simp⟩,⟨by simp only;have:=HX.out;omega,by simp only;have:=HX.out;omega⟩,⟨by simp,by simp⟩⟩ HN9.out (fun h=> by simp at h) HL.out).mono ?_
  rintro e w4 ⟨rfl,vl',h4,hc4,hf4⟩
  have H4:=Lib.hid h4
  have C4:=Lib.hid hc4
  have F4:=Lib.hid hf4
  clear h4 hc4 hf4 c3
  go_upto_region 11 with (fail)
  apply region_early' (n:=63) [.f,.e,.e,.e,.e,.e,.c,.c,.c,.f,.f,.c] 2 (by kernel_rfl) (by kernel_rfl) (by kernel_rfl) rfl
  ·intro w5 hB5
   have c3:=(H4.out.below hB5).c3
   rw [HEB.out] at c3
   simp only [selBy,Cl.isE,cond_true,cond_false]
   repeat still_step
   exact wpStill_nil rfl
  ·intro w5
   simp only [selBy,Cl.isF,cond_true,cond_false]
   repeat still_step
   exact wpStill_nil rfl
  ·simp only [selBy,Cl.isC,cond_true,cond_false]
   refine chW_step ((Below.refl _ _).drew) (fun K hK=> ?_)
   go_simp
   have CF4:Hid (Chg F w1 w4):=Lib.hid ((Chg.of_below B3.out F).trans (C4.out.mono (G:=F) fun b _ hb=> (HFF.out b).2 (by
    rcases hb with h | h | h
    ·exact .inl h
    ·exact .inr (.inl h)
    ·exact .inr (.inr (.inr (.inl h))))) fun _ _ h=> h)
   have HV4:=Lib.hid ((HV.out.chgY CF4.out HVF.out).below ((Below.refl w4.heap.size w4).drew))
   have HB4:Hid (B≤w4.heap.size):=Lib.hid (Nat.le_trans HBB.out CF4.out.size)
   refine (clone_any _ _ _ _ HV4.out (by have:=HOB.out.2;omega)).mono ?_
   rintro e w5 ⟨u,rfl,hu,b5⟩
   have UB:Hid (∀c,u.ownBlock=some c→w4.heap.size≤c):=Lib.hid hu.block
   have hu:=hu.mono (show B≤w4.drew.heap.size from HB4.out)
   have b5':Below w4.heap.size w4 w5:=((Below.refl w4.heap.size w4).drew).trans b5
   refine hK _ _ b5' ?_
   clear hK K
   obtain ⟨au,cu,eu,_⟩:=hu.owmT.slice
   subst eu
   refine chW_step b5' (fun K hK=> ?_)
   rw [if_pos (wanted_none rfl)]
   refine wp_buildS 35 23 1 _ rfl Try.underlying35 #[.slice au b.length cu] (by kernel_rfl) (hK _ _ (b5'.alloc b5'.size _) (chW_zero ?_))
   clear hK K
   have H5:=Lib.hid (H4.out.below b5')
   refine wpList_append_lit (w0:=w5) rfl _ _ rfl rfl rfl (HEB.out▸H5.out.bs) Try.underlying35 Try.infoBs rfl rfl rfl (by have:=HX.out;unfold maxLen;show S.tx.length+1≤_;omega) (by have:=HX.out;show (S.tx.length+1) * 24≤_;omega) ?_
   intro v6 w6 ho6 hg6 hp6
   obtain ⟨⟨e0,f0⟩,hT7,hC7,hF7⟩:=H5.out.toTsp.pushV (b0:=b) (Nat.le_trans HB4.out b5'.size) ho6 rfl hu (HEB.out▸hg6) (HEB.out▸hp6)
   rw [HEB.out] at e0
   have T7:=Lib.hid hT7
   have C7:Hid (Chg (fun b=> b=p∨vb.ownBlock=some b) w4 _):=Lib.hid ((Chg.of_below b5' _).trans hC7 fun _ _ h=> h)
   have F7:Hid (∀b,v6.ownBlock=some b→vb.ownBlock=some b∨w4.heap.size≤b):=Lib.hid fun b hb=> (hF7 b hb).imp id fun h=> Nat.le_trans b5'.size h
   obtain ⟨a6,q6,rfl,_⟩:=ho6.slice
   clear ho6 hg6 hp6 hT7 hC7 hF7 hu b5 b5'
   go_wp2
   refine onlyN ?_
   go_upto_region 12 with (fail)
   refine wp_world (fun w7=> Tsp B w7 p mb mt vl' (.slice a6 (S.tx.length+1) q6) (fun j=> if j=S.tx.length then .slice au b.length cu else tv j) (S.l++ [(9,(S.tx.length:Int),0)]) (S.l++ [(9,(S.tx.length:Int),0)]) (S.tx++ [b]) S.tx (txN (S.add (9,(S.tx.length:Int),0))) (fun k=> nxt (S.l++ [(9,(S.tx.length:Int),0)]) k)∧Chg (fun b=> b=p∨vb.ownBlock=some b) w4 w7) ⟨T7.out,C7.out⟩ ?_
   rintro w7 ⟨hT7,hC7⟩
   have T7:=Lib.hid hT7
   have C7:=Lib.hid hC7
   have CF7:Hid (Chg F w1 w7):=Lib.hid (CF4.out.trans (hC7.mono (G:=F) fun c _ hc=> (HFF.out c).2 (by
    rcases hc with h | h
    ·exact .inl h
    ·exact .inr (.inr (.inr (.inr (.inl h)))))) fun _ _ h=> h)
   clear hT7 hC7 e0 f0
   have HV7:=Lib.hid (HV.out.chgY CF7.out HVF.out)
   have HIN9:=HIN.out
   obtain ⟨w8,hrun,hT8,hC8⟩:=(T7.out.below ((Below.refl w7.heap.size w7).drew)).putX (xv':=txN (S.text b)) H.out.okx HOB.out HIN.out (by have:=HX.out;omega) (txN_new H.out.nd H.out.txn HIN.out HN9.out) (by have:=HL.out;omega) (fun y hy=> txN_old H.out.txn HIN.out hy)
   have HRUN:Hid ((Instr.mapUpdate 157 (.map (some mt)) (.string (strOf b.length (bf b))) (.int .i64 (S.l.length:Int))).run Try.prog w7.drew=.ok () w8):=Lib.hid hrun
   have FIN:=Lib.hid (H.out.ofText HOB.out HIN.out HN9.out (by have:=HX.out;omega) hT8 fun k _=> by rw [nxt_snoc,if_neg (fun h=> by have:=h.1;simp at this)])
   have CF8:Hid (Chg F w1 w8):=Lib.hid ((CF7.out.trans (Chg.of_below ((Below.refl w7.heap.size w7).drew) (fun _=> False)) fun _ _ h=> h.elim).trans (hC8.mono (G:=F) fun c _ hc=> (HFF.out c).2 (.inr (.inr (.inl hc)))) fun _ _ h=> h)
   have OK8:=Lib.hid (HOK.out.text b)
   have F8:Hid (∀c,TF p mb mt vl' (.slice a6 (S.tx.length+1) q6) (S.text b).tx.length (fun j=> if j=S.tx.length then .slice au b.length cu else tv j) c→F c∨w1.heap.size≤c):=Lib.hid fun c hc=> by
    have s4:=CF4.out.size
    rcases hc with h | h | h | h | h | ⟨j,hj,h⟩
    ·exact .inl ((HFF.out c).2 (.inl h))
    ·exact .inl ((HFF.out c).2 (.inr (.inl h)))
    ·exact .inl ((HFF.out c).2 (.inr (.inr (.inl h))))
    ·exact (F4.out c h).imp (fun h=> (HFF.out c).2 (.inr (.inr (.inr (.inl h))))) fun h=> Nat.le_trans B3.out.size h
    ·exact (F7.out c h).imp (fun h=> (HFF.out c).2 (.inr (.inr (.inr (.inr (.inl h)))))) fun h=> Nat.le_trans s4 h
    ·dsimp only at h
     by_cases e:j=S.tx.length
     ·rw [if_pos e] at h
      exact .inr (Nat.le_trans s4 (UB.out c h))
     ·rw [if_neg e] at h
      have hj:j<(S.text b).tx.length:=hj
      rw [show S.text b=⟨S.l++ [(9,(S.tx.length:Int),0)],S.tx++ [b]⟩ from if_neg HIN.out] at hj
      have hj:j<(S.tx++ [b]).length:=hj
      rw [List.length_append,List.length_singleton] at hj
      exact .inl ((HFF.out c).2 (.inr (.inr (.inr (.inr (.inr ⟨j,by omega,h⟩))))))
   clear hrun hT8 hC8 HIN9
   rw [←HSP.out] at FIN OK8 F8
   apply region_early' (n:=63) [.e,.e,.e,.e,.e,.c,.e,.c] 1 (by kernel_rfl) (by kernel_rfl) (by kernel_rfl) rfl
   ·intro w9 hB9
    have c2:=(T7.out.below hB9).c2
    simp only [selBy,Cl.isE,cond_true,cond_false]
    repeat still_step
    exact wpStill_nil rfl
   ·intro w9
    simp only [selBy,Cl.isF,cond_true,cond_false]
    repeat still_step
    exact wpStill_nil rfl
   ·simp only [selBy,Cl.isC,cond_true,cond_false]
    refine chW_step ((Below.refl _ _).drew) (fun K hK=> ?_)
    rw [if_pos (wanted_none rfl)]
    unfold Oper.wp
    rw [run_conv_rd (v:=.slice av b.length cv) rfl rfl (HV7.out.below ((Below.refl w7.heap.size w7).drew)) Try.underlying23 Try.underlying5 Try.underlying9 HOB.out.1.at]
    refine hK _ _ ((Below.refl _ _).drew) (chW_zero ?_)
    clear hK K
    have hrun:=HRUN.out
    go_wp2
    refine onlyN ?_
    clear hrun
    go_wp2
    go_ret2
    rw [E1.out]
    exact ⟨rfl,_,⟨mb,mt,_,_,_,FIN.out,OK8.out,fun b=> Iff.rfl⟩,CF8.out,F8.out⟩
end
end Go.Proofs.Ytlmdgmgbijfaoaa
