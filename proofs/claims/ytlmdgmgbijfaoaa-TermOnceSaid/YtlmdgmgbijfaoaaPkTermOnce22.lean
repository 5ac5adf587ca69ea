/-
  Part 22 of the texts that the proof of TermOnce rests on, one after the other. Conditions: named in each theorem.
-/
import Derived.Test.YtlmdgmgbijfaoaaPkTermOnce21
import Derived.Test.YtlmdgmgbijfaoaaPkTermOnce20
import Derived.Test.YtlmdgmgbijfaoaaPkTermOnce16
import Derived.Test.YtlmdgmgbijfaoaaPkTermOnce15
import Derived.Test.YtlmdgmgbijfaoaaPkTermOnce13
import Derived.Test.YtlmdgmgbijfaoaaPkTermOnce1
import Derived.Test.YtlmdgmgbijfaoaaPkTermOnce2
import Derived.Test.YtlmdgmgbijfaoaaPkTermOnce11
import Derived.Test.YtlmdgmgbijfaoaaPkTermOnce5
import Derived.Test.YtlmdgmgbijfaoaaPkTermOnce3
import Derived.Test.YtlmdgmgbijfaoaaPkTermOnce4
import Derived.Test.YtlmdgmgbijfaoaaPkTermOnce6
import Derived.Test.YtlmdgmgbijfaoaaPkTermOnce7
import Derived.Test.YtlmdgmgbijfaoaaPkTermOnce10
import Derived.Test.YtlmdgmgbijfaoaaPkTermOnce9
import Derived.Test.YtlmdgmgbijfaoaaPkTermOnce8
import Derived.Test.YtlmdgmgbijfaoaaPkTermOnce12
import Derived.Test.YtlmdgmgbijfaoaaPkTermOnce14
import Derived.Test.YtlmdgmgbijfaoaaPkTermOnce18
import Derived.Test.YtlmdgmgbijfaoaaPkTermOnce17
import Derived.Test.YtlmdgmgbijfaoaaPkTermOnce19
import Derived.BigFrame
import Derived.BigQuiet
import Derived.ChangeKeysEq
import Derived.ChangeMaps5
import Derived.ChangeOld
import Derived.Deep.Cut
import Derived.Deep.DrawnRows
import Derived.Deep.MidRow
import Derived.Deep.QuietTactic
import Derived.Deep.RegionHeld3
import Derived.Deep.RegionLaw
import Derived.Deep.Slices
import Derived.Deep.Strs
import Derived.Deep.Upon
import Derived.Deep.WholeRow
import Derived.DeepKeys4
import Derived.Great.BuildSlice
import Derived.Great.Walk
import Derived.Laws.BitsAllLaws
import Derived.Laws.BytesArg
import Derived.Laws.CopyOwn
import Derived.Laws.IdiomCopy
import Derived.Laws.Strings
import Derived.Laws.StructEq
import Derived.Lib.BufferRead
import Derived.Lib.Hide
import Derived.LoopIn
import Derived.LoopNIn
import Derived.MapViews
import Derived.Maps.AppendAt
import Derived.Maps.OwnSet
import Derived.Maps.Range
import Derived.Maps.Views
import Derived.OpenShut
import Derived.Orders
import Derived.OrdersIn
import Derived.OwnWalkIn
import Derived.ProofKit
import Derived.RangeFuncBound
import Derived.RangeFuncBox
import Derived.RangeFuncCalls
import Derived.RangeFuncFrom
import Derived.RangeFuncLeaves
import Derived.RangeFuncNested
import Derived.Shelf.Abstract
import Derived.Shelf.RegionOpen
import Derived.ShutString
import Derived.StillTactics
import Derived.StillTailTactics
import Derived.TacticsInMore
import Derived.Test.YtlmdgmgbijfaoaaArr
import Derived.Test.YtlmdgmgbijfaoaaFlow
import Derived.Test.YtlmdgmgbijfaoaaKit
import Derived.Test.YtlmdgmgbijfaoaaOpen
import Derived.Test.YtlmdgmgbijfaoaaOpenT
import Derived.Test.YtlmdgmgbijfaoaaRows
import Derived.Test.YtlmdgmgbijfaoaaTxt
import Derived.WalkKit
import Derived.WalkLawsBesides
import Derived.WalkSmall
import Derived.WalkSpells
set_option linter.unusedVariables false
set_option linter.unusedSimpArgs false
set_option maxRecDepth 100000
set_option maxHeartbeats 6400000
namespace Go.Proofs.Ytlmdgmgbijfaoaa
open Go.RowKit Go.Bas Go.ChangeShapes Go.Maps
attribute [local go_sem ↓] Go.wp_at_zero Go.wp_at_succ
attribute [local go_sem] Oper.semAt_some
theorem put_get {S:TS} {t:Tm} (h:mayT S t=true):getA (S.put t) (putA S t).1=(t,true):=by
 unfold putA TS.put
 rw [if_pos h]
 by_cases hm:t ∈ S.l
 ·rw [if_pos hm,if_neg (fun hh=> hh.2 hm)]
  exact getA_yes (plc_get hm)
 ·rw [if_neg hm,if_pos ⟨h,hm⟩]
  exact getA_yes (by simp [TS.add])
theorem put_code (S:TS) (t:Tm):(putA S t).2=if mayT S t=true then 0 else 2:=by
 unfold putA
 split<;> rfl
theorem put_none {S:TS} {t:Tm} (h:mayT S t=false):S.put t=S:=by
 unfold TS.put
 rw [if_neg (fun hh=> by rw [h] at hh;cases hh.1)]
theorem draw_yes {S:TS} {s:Int} (h1:isSort s=true) (h2:nxt S.l s≤topT):drawA S s=((S.l.length:Int),0)∧(S.draw s).l.length=S.l.length+1:=by
 unfold drawA TS.draw
 rw [if_pos h1,if_pos h2,if_pos ⟨h1,h2⟩]
 exact ⟨rfl,add_len _ _⟩
theorem draw_no {S:TS} {s:Int} (h:¬ (isSort s=true∧nxt S.l s≤topT)):((drawA S s).2==0)=false:=by
 unfold drawA
 by_cases h1:isSort s=true
 ·rw [if_pos h1,if_neg (fun h2=> h ⟨h1,h2⟩)];rfl
 ·rw [if_neg h1];rfl
theorem text_bytes {S:TS} (hok:S.Ok) (b:List Int):bytA (S.text b) (textA S b)=(b,true):=by
 unfold bytA textA TS.text
 by_cases hm:b ∈ S.tx
 ·rw [if_pos hm,if_pos hm]
  have h9:=hok.all _ (plc_lt hm)
  rw [if_pos (hasT_iff.2 ⟨_,rfl,_,plc_get h9,.inr rfl⟩),Int.toNat_natCast,tmAt_eq (plc_get h9),Int.toNat_natCast,List.getD_eq_getElem?_getD,plc_get hm]
  rfl
 ·rw [if_neg hm,if_neg hm]
  have h9:(S.l++ [((9,(S.tx.length:Int),0):Tm)])[S.l.length]? =some (9,(S.tx.length:Int),0):=by simp
  rw [if_pos (hasT_iff.2 ⟨_,rfl,_,h9,.inr rfl⟩),Int.toNat_natCast,tmAt_eq h9,Int.toNat_natCast,List.getD_eq_getElem?_getD]
  simp
theorem sLenNil (w:World):Calls Try.prog 56 #[.pointer none] w fun e w'=> e=.returned (.int .i64 0)∧Below w.heap.size w w':=(tLen_nil w).mono fun e w' h=> ⟨h.1,by rw [h.2];exact Below.refl _ _⟩
theorem tAllNil_stops (n:Nat) (hn:1≤n) {w:World} (q:Nat) (hq:Boxed w q 90 (.pointer none)):
  SeqStopsK Fence.wide n Try.prog 107 #[.pointer (some ⟨q,0,none⟩)] (fun x:Nat=> #[natV x,tmV (tmAt [] x)]) (KeepF (fun b=> b=q))
   (fun ys=> ys= []) (fun _=> False) 0 w:=fun l J Jx W hW hJ hJx hY h0=> by
 refine callsIn_wide.2 ?_
 have hQ:Boxed W q 90 (.pointer none):=by unfold Boxed;rw [hW.block q hq.lt];exact hq
 have HH0:=Lib.hid h0
 have z0:=hQ.cell
 clear hY hJ hJx h0 hW hq hQ
 go_enter Try.func107,Try.ntmps107
 go_wp2_with fail
 refine (tLen_nil _).mono ?_
 rintro e w1 ⟨rfl,rfl⟩
 clear z0
 go_wp2
 go_loopw [6] (fun v wr=> v=.int .i64 0∧wr=w1) (fun _ _=> 0)
 case atStart=> exact ⟨rfl,rfl⟩
 case round=>
  obtain ⟨rfl,rfl⟩:=hrel
  go_wp2
  go_end0
  first
   | exact ⟨⟨_,rfl⟩,.inl ⟨_,rfl,HH0.out⟩⟩
   | exact ⟨⟨_,rfl⟩,.inl HH0.out⟩
theorem DoT.of_row {w:World} {b:Nat} {T:TypeId} {z:Nat→Value} {d:TDo} (h:RowN w b 6 T z) (hd:RowD w z d):DoT w b d.1 d.2.1 d.2.2.1 (z 5):=
 ⟨(h.2 0 (by decide)).trans (congrArg some hd.z0),(h.2 1 (by decide)).trans (congrArg some hd.z1),fun i hi=> (h.2 (2+i) (by omega)).trans (congrArg some (by
  rcases (by omega:i=0∨i=1∨i=2) with rfl | rfl | rfl
  ·exact hd.z2
  ·exact hd.z3
  ·exact hd.z4)),h.2 5 (by decide),h.1.lt⟩
theorem StA.le' {B:Nat} {w:World} {p:Nat} {F:Nat→Prop} {S:TS} (h:StA B w p F S):B≤w.heap.size:=by
 have h':=h
 obtain ⟨_,_,_,_,_,_,_,h3⟩:=h'
 exact Nat.le_trans (h.hi ((h3 p).2 (.inl rfl))) (Nat.le_of_lt (h.lt ((h3 p).2 (.inl rfl))))
structure OnS (N B D:Nat) (w wr:World) (p bs mm bm:Nat) (S:TS) (F:Nat→Prop):Prop where
 st:StA N wr p F S
 s:Boxed wr bs 90 (.pointer (some ⟨p,0,none⟩))
 m:Boxed wr bm 113 (.map (some mm))
 mp:Mpv Try.prog 97 4 wr mm 0 (fun _=> undef) (fun _=> undef)
 x:Boxed wr B 4 (.bool false)
 b:Below B w wr
 df:wr.heap[D]? =some (.deferred (some []))
 n1:¬ F bs
 n2:¬ F bm
 n3:¬ F mm
theorem OnS.below {N B D:Nat} {w wr w2:World} {p bs mm bm:Nat} {S:TS} {F:Nat→Prop} (h:OnS N B D w wr p bs mm bm S F) (hb:Below wr.heap.size wr w2):OnS N B D w w2 p bs mm bm S F:=
 ⟨h.st.below' hb,boxed_below h.s hb,boxed_below h.m hb,h.mp.heap (hb.block mm h.mp.lt),boxed_below h.x hb,h.b.trans (hb.mono (Nat.le_of_lt h.x.lt)),(hb.block D (Array.getElem?_eq_some_iff.1 h.df).1).trans h.df,h.n1,h.n2,h.n3⟩
theorem OnS.chg {N B D:Nat} {w wr w2:World} {p bs mm bm:Nat} {S S':TS} {F F':Nat→Prop} (h:OnS N B D w wr p bs mm bm S F) (hN:B<N) (hD:D<N) (h3:StA N w2 p F' S') (c3:Chg F wr w2) (f3:∀b,F' b→F b∨wr.heap.size≤b):OnS N B D w w2 p bs mm bm S' F':=
 ⟨h3,boxed_chg h.s c3 h.n1,boxed_chg h.m c3 h.n2,h.mp.heap (c3.block mm h.mp.lt h.n3),boxed_chg h.x c3 (fun hb=> by have:=h.st.hi hb;omega),h.b.trans (c3.below (Nat.le_of_lt h.x.lt) fun b hb=> by have:=h.st.hi hb;omega),
  (c3.block D (Array.getElem?_eq_some_iff.1 h.df).1 (fun hb=> by have:=h.st.hi hb;omega)).trans h.df,fun hb=> (f3 _ hb).elim h.n1 fun h1=> by have:=h.s.lt;omega,fun hb=> (f3 _ hb).elim h.n2 fun h1=> by have:=h.m.lt;omega,fun hb=> (f3 _ hb).elim h.n3 fun h1=> by have:=h.mp.lt;omega⟩
theorem zeroTB (w:World):(zeroValue 4).run Try.prog w=.ok (.bool false) w:=by
 have h:(Try.prog.info? 4).map (fun i=> (i.zero,i.size,i.bytes))=some (some (.bool false),1,1):=by kernel_rfl
 obtain ⟨x,h1,h2⟩:=Option.map_eq_some_iff.1 h
 simp only [Prod.mk.injEq] at h2
 simp [zeroValue,typeInfo,h1,h2.1]
abbrev Met (W:World) (mm:Nat) (L:List Tm):Prop:=Mpv Try.prog 97 4 W mm L.length (fun i=> lv tmV L i 0) (fun _=> .bool true)
theorem met_yes {W:World} {mm:Nat} {L:List Tm} {t:Tm} (h:Met W mm L) (ht:t ∈ L):(Instr.lookup 113 (.map (some mm)) (tmV t) false).run Try.prog W=.ok (.bool true) W:=by
 have:=(h.look_yes (Keyed.of_law Try.lawTm) Try.underlying113 (zeroTB W) (plainElem_bool Try.underlying4 false) (plc L t) (plc_lt ht)).2
 rwa [show lv tmV L (plc L t) 0=tmV t from lv_at (plc_get ht)] at this
theorem met_ne {L:List Tm} {t:Tm} (ht:t ∉ L):∀i,i<L.length→lv tmV L i 0≠tmV t:=fun i hi e=> ht (by
 rw [lv_at (List.getElem?_eq_getElem hi)] at e
 rw [←tmV_inj e]
 exact List.getElem_mem hi)
theorem met_no {W:World} {mm:Nat} {L:List Tm} {t:Tm} (h:Met W mm L) (hok:okTm t) (ht:t ∉ L):(Instr.lookup 113 (.map (some mm)) (tmV t) false).run Try.prog W=.ok (.bool false) W:=by
 obtain ⟨kl,hk⟩:=key_tm t hok
 exact (h.look_no (Keyed.of_law Try.lawTm) Try.underlying113 (zeroTB W) (plainElem_bool Try.underlying4 false) hk (met_ne ht)).2
theorem met_put {W:World} {mm:Nat} {L:List Tm} {t:Tm} (h:Met W mm L) (hok:okTm t) (ht:t ∉ L) (hl:L.length≤1000):∃W',(Instr.mapUpdate 113 (.map (some mm)) (tmV t) (.bool true)).run Try.prog W=.ok () W'∧Met W' mm (L++ [t])∧W.grownBy W' (some mm):=by
 obtain ⟨kl,hk⟩:=key_tm t hok
 obtain ⟨W',h1,h2,h3⟩:=h.put (key':=fun i=> lv tmV (L++ [t]) i 0) (val':=fun _=> .bool true) (Keyed.of_law Try.lawTm) Try.underlying113 (by unfold maxLen;omega) hk (plainElem_bool Try.underlying4 true) (met_ne ht) (fun i hi=> ⟨by
  show lv tmV (L++ [t]) i 0=lv tmV L i 0
  unfold lv
  rw [List.getElem?_append_left hi],rfl⟩) ⟨lv_at (by simp),rfl⟩
 exact ⟨W',h1,by show Mpv _ _ _ W' mm (L++ [t]).length _ _;rw [List.length_append,List.length_singleton];exact h2,h3⟩
def MetI (l:List Tm) (wA:World) (mm:Nat) (pre:List Nat) (W:World):Prop:=Chg (fun b=> b=mm) wA W∧(pre.map (tmAt l)).Nodup∧Met W mm (pre.map (tmAt l))
theorem metI_own {l:List Tm} {wA:World} {mm:Nat} (hm:mm<wA.heap.size):OwnFrom wA.heap.size (fun (pre:List Nat) W=> MetI l wA mm pre W):=fun pre W W' row hs hg hr=>
 ⟨chg_own (Nat.le_refl _) pre W W' row hs.1 hg hr,hs.2.1,hs.2.2.kept hg fun e=> by have:=(hr mm e.symm).1;omega⟩
theorem szT_part {S:TS} (hok:S.Ok) {x A:Nat} {t:Tm} (ht:S.l[x]? =some t) (h1:t.1≠1) (h9:t.1≠9) (hA:t.2.1=A) (hAx:A<x) (hs:szT S.l x<1048576):szT S.l A<szT S.l x:=by
 have hx:=(List.getElem?_eq_some_iff.1 ht).1
 have hg:=getD_szs (l:=S.l) hAx (Nat.le_of_lt hx)
 rw [szT_at ht] at hs ⊢
 have hp:szT S.l A≤szP (szs (S.l.take x)) t:=by
  unfold szP
  rw [if_neg (by omega),hA,Int.toNat_natCast,hg]
  split
  ·rename_i h4
   have:0≤(szs (S.l.take x)).getD t.2.2.toNat 0:=by
    rcases hok.ok x t ht with ⟨h,_⟩ | ⟨h,_⟩ | ⟨h,_,b,hb,hbi⟩ | ⟨h,_,b,hb,hbi⟩ | ⟨h,_,b,hb,hbi,_⟩ | ⟨h,_⟩ | ⟨h,_⟩
    ·omega
    ·omega
    ·rw [hb,Int.toNat_natCast,getD_szs hbi (Nat.le_of_lt hx)];have:=(szT_bound hok b (by omega)).1;omega
    ·rw [hb,Int.toNat_natCast,getD_szs hbi (Nat.le_of_lt hx)];have:=(szT_bound hok b (by omega)).1;omega
    ·rw [hb,Int.toNat_natCast,getD_szs hbi (Nat.le_of_lt hx)];have:=(szT_bound hok b (by omega)).1;omega
    ·omega
    ·omega
   omega
  ·exact Int.le_refl _
 omega
theorem termOnce_law (w:World) (v:Value) (L:List TDo) (hd:TDos w v L) (hok:∀(j:Nat) (d:TDo),L[j]? =some d→okD d):
  Calls Try.prog 12 #[v] w fun e w'=> e=.returned (.bool true)∧Below w.heap.size w w':=by
 obtain ⟨m,hm⟩:∃m,m=L.length:=⟨_,rfl⟩
 have HM:=Lib.hid hm
 have HTD:=Lib.hid hd
 obtain ⟨q,hq,hrow⟩:=hd
 rw [←hm] at hq
 obtain ⟨av,cv,rfl,hcv,hcv2,hcell⟩:=hq
 have HRW:=Lib.hid hrow
 have HC:=Lib.hid hcell
 have HOK:=Lib.hid hok
 clear hcell hrow hok hm
 obtain ⟨B,hB⟩:∃x,x=w.heap.size:=⟨_,rfl⟩
 have HB:=Lib.hid hB
 rw [←hB]
 clear hB
 refine (callsIn_wide (n:=9)).1 ?_
 refine callsIn_of_wp_marks Try.func12 rfl trivial ?_ rfl
 simp only [Try.ntmps12,List.size_toArray,List.length_cons,List.length_nil,Nat.reduceAdd,Nat.reduceSub,Array.replicate_succ,Array.replicate_zero,List.push_toArray,List.append_toArray,List.nil_append,List.cons_append]
 refine wpIn_wide.2 ?_
 go_upto_region 1 with (fail)
 refine wp_world (fun w1=> Boxed w1 w.heap.size 4 (.bool false)∧Below B w w1) ⟨Boxed.new w _ _,(Below.refl _ _).alloc (Nat.le_of_eq HB.out) _⟩ ?_
 rintro w1 ⟨x1,b1⟩
 rw [←HB.out] at x1 ⊢
 have X1:=Lib.hid x1
 have B1:=Lib.hid b1
 clear x1 b1
 go_wp2_with fail
 refine (awake14 w1).mono ?_
 rintro e w2 ⟨rfl,b2⟩
 have B2:=Lib.hid (laterT HB.out B1.out b2)
 have X2:=Lib.hid (boxed_below X1.out b2)
 clear b2
 go_wp2_with fail
 refine (tPut_nil w2 (0,0,0)).mono ?_
 rintro e wa ⟨rfl,ba⟩
 have Ba:=Lib.hid (laterT HB.out B2.out ba)
 have Xa:=Lib.hid (boxed_below X2.out ba)
 clear ba
 go_wp2_with fail
 refine (tDraw_nil wa 1).mono ?_
 rintro e w' ⟨rfl,rfl⟩
 go_wp2_with fail
 refine (tText_nil w' none 0 0).mono ?_
 rintro e wb ⟨rfl,rfl⟩
 go_upto_region 11 with (fail)
 refine region_flow (n:=225) (by kernel_rfl) (by kernel_rfl) (by kernel_rfl) rfl
  (fun ii vv _=> (match ii with | 0=> vv=.int .i64 (1) | 1 | 2 | 8 | 9=> vv=.bool false | 3 | 5=> vv=.pointer none | 4 | 6 | 7=> vv=.int .i64 (0) | _=> True))
  (fun w w'=> Below w.heap.size w w') (fun _ _ h=> h) (fun _ _ _ _ h _=> h) ?_ ?_
 ·refine Each.all ?_
  refine ⟨?_,?_,?_,?_,?_,?_,?_,?_,?_,?_,trivial⟩
  ·intro a w2 hB hF hd
   rw [if_pos (wanted_none rfl)]
   exact flow_move _ (.inl rfl) (by simp) (hF.same 9 rfl)
  ·intro a w2 hB hF hd
   rw [if_pos (wanted_none rfl)]
   exact flow_val (fun h=> by cases h) (Go.Bas.run_neq_int rfl (hd 0 _ rfl (waits_spec rfl)) rfl) (congrArg Value.bool (rfl))
  ·intro a w2 hB hF hd
   rw [if_pos (wanted_none rfl)]
   exact flow_move _ (.inl rfl) (by simp) (hd 1 _ rfl (waits_spec rfl))
  ·intro a w2 hB hF hd
   refine flow_wanted (wanted_yes rfl rfl (hd 2 _ rfl (waits_spec rfl)) rfl) ?_
   exact flow_move _ (.inl rfl) (by simp) (hF.same 3 rfl)
  ·intro a w2 hB hF hd
   refine flow_wanted (wanted_yes rfl rfl (hd 2 _ rfl (waits_spec rfl)) rfl) ?_
   refine flow_call _ _ _ rfl Try.call56 _ (args1 (hd 3 _ rfl (waits_spec rfl))) (by simp) ((sLenNil w2).mono ?_)
   rintro e w3 ⟨rfl,hb⟩;exact ⟨_,rfl,rfl,hb⟩
  ·intro a w2 hB hF hd
   refine flow_wanted (wanted_yes rfl rfl (hd 2 _ rfl (waits_spec rfl)) rfl) ?_
   exact flow_move _ (.inl rfl) (by simp) (hF.same 3 rfl)
  ·intro a w2 hB hF hd
   refine flow_wanted (wanted_yes rfl rfl (hd 2 _ rfl (waits_spec rfl)) rfl) ?_
   refine flow_call _ _ _ rfl Try.call60 _ (args2 (hd 5 _ rfl (waits_spec rfl)) rfl) (by simp) ((tSize_nil w2 0).mono ?_)
   rintro e w3 ⟨rfl,hb⟩;exact ⟨_,rfl,rfl,hb⟩
  ·intro a w2 hB hF hd
   refine flow_wanted (wanted_yes rfl rfl (hd 2 _ rfl (waits_spec rfl)) rfl) ?_
   exact flow_val (fun h=> by cases h) (Go.Bas.run_add rfl (hd 4 _ rfl (waits_spec rfl)) (hd 6 _ rfl (waits_spec rfl))) (congrArg (Value.int .i64) (rfl))
  ·intro a w2 hB hF hd
   refine flow_wanted (wanted_yes rfl rfl (hd 2 _ rfl (waits_spec rfl)) rfl) ?_
   exact flow_val (fun h=> by cases h) (Go.Bas.run_neq_int rfl (hd 7 _ rfl (waits_spec rfl)) rfl) (congrArg Value.bool (rfl))
  ·intro a w2 hB hF hd
   rw [if_pos (wanted_none rfl)]
   exact flow_val (fun h=> by cases h) (run_pick rfl (hd 2 _ rfl (waits_spec rfl))) ((hd 8 _ rfl (waits_spec rfl)))
 ·intro a w4 hB hF hS
  have ha:=puts_each rfl rfl hF [_,_,_,_,_,_,_,_,_,_] rfl ⟨hS 0 _ rfl,hS 1 _ rfl,hS 2 _ rfl,hS 3 _ rfl,hS 4 _ rfl,hS 5 _ rfl,hS 6 _ rfl,hS 7 _ rfl,hS 8 _ rfl,hS 9 _ rfl,trivial⟩
  simp only [puts,Act.put,List.setIfInBounds_toArray,List.set_cons_succ,List.set_cons_zero] at ha
  subst ha
  clear hS hF
  have B4:=Lib.hid (laterT HB.out Ba.out hB)
  have X4:=Lib.hid (boxed_below Xa.out hB)
  clear hB
  go_wp2_with fail
  refine (tAll_any w4 _ rfl).mono ?_
  rintro e w5 ⟨rfl,hx5,b5,hs5⟩
  obtain ⟨q5,hq5⟩:∃q,q=w4.heap.size:=⟨_,rfl⟩
  rw [←hq5] at hx5 hs5 ⊢
  have XQ5:=Lib.hid hx5
  have B5:=Lib.hid (laterT HB.out B4.out b5)
  have X5:=Lib.hid (boxed_below X4.out b5)
  clear b5 hs5 hq5
  have hstop:=tAllNil_stops 8 (by decide) q5 hx5
  clear hx5
  go_wp2
  refine (wpIn_wide (n:=9)).1 ?_
  refine wpIn_rangeFunc_ownH (F:=Fence.wide) (n:=9) rfl (by decide) (gf:=107) rfl trivial (enters_of Try.func107 (by kernel_rfl) rfl) hstop (fun h k=> h.trans k) (keepF_b fun b hb=> hb▸XQ5.out.lt) (Below.refl _ _) (fun _=> rfl)
   (fun _ W=> Below w5.heap.size w5 W) (fun _ _ _=> False) ?hI ?hIx ?h0 (fun _ _ _=> True) ?hAx ?assign ?body ?done ?stop
  case hI=> exact ownFrom_below (Nat.le_refl _) (Nat.le_refl _)
  case hIx=> exact fun c=> ownFrom_pure _ _
  case h0=> exact Below.refl _ _
  case hAx=> exact fun _ _=> ownFrom_pure _ _
  case assign=>
   intro l pre x W K hi hK
   gi_wp2
   exact hK _ _ (KeepsFrom.refl _ _) (KeepF.refl _ _) hi trivial
  case body=>
   rintro l pre x a' W hl hr hi hA hlt
   exact absurd hlt (Nat.not_lt_zero _)
  case stop=>
   rintro D cd pre W hD hSp
   exact hSp.elim
  case done=>
   rintro D ys W hD rfl hI hKD
   have HKD:=Lib.hid hKD
   have HD:=Lib.hid (show B≤D by have:=X5.out.lt;omega)
   have B6:=Lib.hid (laterT HB.out B5.out hI)
   have X6:=Lib.hid (boxed_below X5.out hI)
   clear hD hI hKD hstop
   go_wp2_with fail
   refine (few14 _ L W (tdos_below HTD.out (HB.out▸B6.out))).mono ?_
   rintro e w7 ⟨r,rfl,hr,b7⟩
   have B7:=Lib.hid (laterT HB.out B6.out b7)
   have X7:=Lib.hid (boxed_below X6.out b7)
   have HDL:=Lib.hid (show D<W.heap.size from (Array.getElem?_eq_some_iff.1 HKD.out).1)
   have HKD7:Hid (w7.heap[D]? =some (.deferred (some []))):=Lib.hid ((b7.block D HDL.out).trans HKD.out)
   have HDL7:=Lib.hid (show D<w7.heap.size from (Array.getElem?_eq_some_iff.1 HKD7.out).1)
   have HFW:=Lib.hid hr
   clear b7 hr
   cases r with
   | false=>
    have c2:=X7.out.cell
    have f2:=X7.out.frozen
    have HBD:=HD.out
    have HB9:Hid (Below B w ((w7.setCell ⟨B,0,none⟩ (.bool true)).putObj D (.deferred none))):=Lib.hid ((B7.out.setCell (Nat.le_refl _) _).grown (grownBy_putObj' _ D _) (by rw [size_setCell];exact Nat.le_of_lt X7.out.lt) (fun k e=> by cases e;exact HD.out))
    have hDB:B≠D:=fun e=> by
     have h1:=HKD7.out
     have h2:w7.heap[B]? =some (.cells #[.bool false] 4 (0,0)):=X7.out
     rw [←e,h2] at h1
     cases h1
    have HKDf:Hid ((w7.setCell ⟨B,0,none⟩ (.bool true)).heap[D]? =some (.deferred (some []))):=Lib.hid ((heap_setCell_other w7 ⟨B,0,none⟩ D _ (Ne.symm hDB)).trans HKD7.out)
    have E2:Hid (((w7.setCell ⟨B,0,none⟩ (.bool true)).putObj D (.deferred none)).cell? ⟨B,0,none⟩=some (.bool true)):=Lib.hid ((World.cell?_of_block (a:=⟨B,0,none⟩) (World.putObj_heap_other hDB)).trans (X7.out.set (.bool true)).cell)
    clear hDB HBD
    go_wp2
    have e2:=E2.out
    refine ⟨by simp,.inl ⟨_,_,rfl,run_takeDeferred HKDf.out,?_⟩⟩
    exact ⟨.bool true,by simp [results,Try.results12,go_sem,e2],rfl,HB9.out⟩
   | true=>
    have HFEW:=Lib.hid (HFW.out rfl)
    go_wp2_with fail
    refine (tNew_any w7).mono ?_
    rintro e w8 ⟨p,F,rfl,h8,b8⟩
    have H8:=Lib.hid h8
    have B8:=Lib.hid (laterT HB.out B7.out b8)
    have X8:=Lib.hid (boxed_below X7.out b8)
    have HKD8:Hid (w8.heap[D]? =some (.deferred (some []))):=Lib.hid ((b8.block D HDL7.out).trans HKD7.out)
    obtain ⟨N,hN⟩:∃N,N=w7.heap.size:=⟨_,rfl⟩
    rw [←hN] at H8
    have HN:Hid (B<N):=Lib.hid (hN▸X7.out.lt)
    have HDN:Hid (D<N):=Lib.hid (hN▸HDL7.out)
    clear h8 b8 hN
    go_upto_region 18 with (fail)
    obtain ⟨bs,hbs⟩:∃b,b=w8.heap.size:=⟨_,rfl⟩
    refine wp_world (fun w9=> Boxed w9 w8.heap.size 90 (.pointer (some ⟨p,0,none⟩))∧Below w8.heap.size w8 w9) ⟨Boxed.new w8 _ _,(Below.refl _ _).alloc (Nat.le_refl _) _⟩ ?_
    rintro w9 ⟨s9,b9⟩
    rw [←hbs] at s9 ⊢
    have S9:=Lib.hid s9
    have H9:=Lib.hid (H8.out.below' b9)
    have B9:=Lib.hid (laterT HB.out B8.out b9)
    have X9:=Lib.hid (boxed_below X8.out b9)
    have HKD9:Hid (w9.heap[D]? =some (.deferred (some []))):=Lib.hid ((b9.block D (Array.getElem?_eq_some_iff.1 HKD8.out).1).trans HKD8.out)
    have HBS:=Lib.hid (show ∀b,F b→b<bs from fun b hb=> by rw [hbs];exact H8.out.lt hb)
    clear s9 b9 hbs
    have hmk:∀w,(Instr.makeMap 113 none).run Try.prog w=.ok (.map (some w.heap.size)) (w.alloc (.map #[] 0)):=fun w=> rfl
    go_upto_region 19 with (fail)
    refine wp_world (fun w10=> Mpv Try.prog 97 4 w10 w9.heap.size 0 (fun _=> undef) (fun _=> undef)∧Boxed w10 (w9.heap.size+1) 113 (.map (some w9.heap.size))∧Below w9.heap.size w9 w10) ⟨(Mpv.made _ _ _ _ _ _).alloc _,(by have:=Boxed.new (w9.alloc (.map #[] 0)) 113 (.map (some w9.heap.size));rwa [World.size_alloc] at this),((Below.refl _ _).alloc (Nat.le_refl _) _).alloc (by simp) _⟩ ?_
    rintro w10 ⟨m10,x10,b10⟩
    obtain ⟨mm,hmm⟩:∃b,b=w9.heap.size:=⟨_,rfl⟩
    rw [←hmm] at m10 x10 ⊢
    have HO:Hid (OnS N B D w w10 p bs mm (mm+1) ⟨[], []⟩ F):=Lib.hid ⟨H9.out.below' b10,boxed_below S9.out b10,x10,m10,boxed_below X9.out b10,laterT HB.out B9.out b10,(b10.block D (Array.getElem?_eq_some_iff.1 HKD9.out).1).trans HKD9.out,fun h=> by have:=HBS.out _ h;omega,fun h=> by have:=H9.out.lt h;omega,fun h=> by have:=H9.out.lt h;omega⟩
    have HBM:Hid (bs<mm∧B<mm):=Lib.hid (by rw [hmm];exact ⟨S9.out.lt,X9.out.lt⟩)
    clear m10 x10 b10 hmk hmm
    go_wp2
    go_loopw [70] (fun i wr=> ∃k:Nat,k≤m∧i=.int .i64 k∧∃S F,OnS N B D w wr p bs mm (mm+1) S F∧S.l.length≤k∧S.tx.length≤k) (fun i _=> m - (intOf i).toNat)
    case atStart=> exact ⟨0,Nat.zero_le _,rfl,_,_,HO.out,Nat.le_refl _,Nat.le_refl _⟩
    case round=>
     obtain ⟨k,hk,rfl,S,F,hO,hl1,hl2⟩:=hrel
     have HO:=Lib.hid hO
     have HL1:=Lib.hid hl1
     have HL2:=Lib.hid hl2
     have HM30:=Lib.hid (show m≤30 by have:=HFEW.out.1;have:=HM.out;omega)
     clear hO hl1 hl2
     by_cases hlt:k<m
     ·obtain ⟨bb,o,rfl,hbl,hcc⟩:=HC.out (by omega)
      have HCL:Hid (∀i,i<6→wr.cell? ⟨bb,o+k * 6+i,none⟩=some (q k i)):=fun i hi=> (HO.out.b.cell (p:=⟨bb,o+k * 6+i,none⟩) (HB.out▸hbl)).trans (hcc k hlt i hi)
      obtain ⟨d,hd⟩:∃d,L[k]? =some d:=⟨_,List.getElem?_eq_getElem (by rw [←HM.out];exact hlt)⟩
      have HRD:=Lib.hid ((HRW.out k d hd).below (HB.out▸HO.out.b))
      have HOC:Hid (∀i,i<6→(q k i).oneCell'=true):=Lib.hid HRD.out.one
      have HOD:=Lib.hid (HOK.out k d hd)
      have H100:=Lib.hid (HFEW.out.2 k d hd)
      have HVB:Hid (0<d.2.2.2.length→∀c,(q k 5).ownBlock=some c→c<B):=Lib.hid fun h0 c hc=> by
       obtain ⟨a',c',e',_,_,_,h4'⟩:=(HRW.out k d hd).z5
       obtain ⟨b',o',rfl,hlt',_⟩:=h4' h0
       rw [e'] at hc
       cases hc
       have hB1:=HB.out
       exact hB1▸hlt'
      have HLT:=Lib.hid hlt
      clear hcc hd hbl
      go_upto_region 22 with (first | (refine load_row rfl rfl rfl Try.underlying99 rfl Try.sizeD14 HCL.out ?_) | (refine store_rowV rfl 99 _ _ rfl wr.heap.size 6 (q k) _ 99 (heap_alloc_new _ _) rfl Try.sizeD14 rfl rfl HOC.out ?_))
      refine wp_world (fun w6=> RowN w6 wr.heap.size 6 99 (q k)∧Below wr.heap.size wr w6) ⟨RowN.setRow (heap_alloc_new _ _),below_setRow' ((Below.refl _ _).alloc (Nat.le_refl _) _) (Nat.le_refl _) _⟩ ?_
      rintro w6 ⟨hr6,hb6⟩
      obtain ⟨bd,hbd⟩:∃b,b=wr.heap.size:=⟨_,rfl⟩
      have DT6:=Lib.hid (DoT.of_row hr6 (HRD.out.below hb6))
      have VR6:=Lib.hid (HRD.out.below hb6).z5
      have O6:=Lib.hid (HO.out.below hb6)
      have HNX:Hid (¬ F wr.heap.size):=Lib.hid fun h=> by have:=HO.out.st.lt h;omega
      rw [←hbd] at DT6 HNX ⊢
      obtain ⟨av5,cv5,ev5,_⟩:=VR6.out
      obtain ⟨kd,n,t,b⟩:=d
      have VR6:Hid (Rd .u8 w6 (q k 5) b.length (bf b)):=VR6
      rw [ev5] at DT6 HVB VR6
      have D0:w6.cell? ⟨bd,0,none⟩=some (.int .i64 kd):=DT6.out.d0
      have HBSZ:=Lib.hid (show bd≤w6.heap.size from by rw [hbd];exact hb6.size)
      have cs:=O6.out.s.cell
      clear hr6 hb6 hbd ev5
      go_wp2_with fail
      refine (sLen_any O6.out.st).mono ?_
      rintro e w6 ⟨rfl,rfl⟩
      have HNS:=Lib.hid (show N≤w6.heap.size from O6.out.st.le')
      by_cases hk1:kd=1
      ·subst hk1
       have HC2:=Lib.hid DT6.out.d2
       go_wp2_with (refine load_row (y:=fun i=> .int .i64 (tf t i)) rfl rfl rfl Try.underlying97 rfl Try.sizeTm HC2.out ?_)
       refine (tPut_any O6.out.st HNS.out t HOD.out.2.2.1 (by have:=HL1.out;have:=HM30.out;omega)).mono ?_
       rintro e w7 ⟨rfl,F3,h3,c3,f3⟩
       have O7:=Lib.hid (O6.out.chg HN.out HDN.out h3 c3 f3)
       have DT7:=Lib.hid (DT6.out.chg c3 HNX.out)
       clear h3 c3 f3 cs D0
       have cs:=O7.out.s.cell
       obtain ⟨GG,hGG⟩:∃x,x=getA (S.put t) (putA S t).1:=⟨_,rfl⟩
       obtain ⟨a,ha⟩:∃x,x=(putA S t).1:=⟨_,rfl⟩
       obtain ⟨ec,hec⟩:∃x,x=(putA S t).2:=⟨_,rfl⟩
       have HGG:=Lib.hid hGG
       have HEC:=Lib.hid (hec.trans (put_code S t))
       have HGA:Hid (getA (S.put t) a=GG):=Lib.hid (by rw [ha,←hGG])
       rw [←ha,←hec]
       clear hGG ha hec
       go_wp2_with fail
       refine (tGet_any O7.out.st a).mono ?_
       rw [HGA.out]
       rintro e w8 ⟨rfl,b8⟩
       have O8:=Lib.hid (O7.out.below b8)
       have DT8:=Lib.hid (DT7.out.chg (Chg.of_below b8 fun _=> False) id)
       clear b8 cs
       go_upto_region 31 with (first | (refine store_rowV rfl 97 _ _ rfl w8.heap.size 3 (fun i=> .int .i64 (tf GG.1 i)) _ 97 (heap_alloc_new _ _) rfl Try.sizeTm rfl rfl (fun _ _=> rfl) ?_))
       have hM0:Arr .i64 (w8.alloc (.cells #[.int .i64 0,.int .i64 0,.int .i64 0] 97)) w8.heap.size 3 (fun _=> 0):=Arr.newAt rfl rfl
       refine wp_world (fun w1=> Arr .i64 w1 w8.heap.size 3 (tf GG.1)∧Below w8.heap.size w8 w1) ⟨hM0.setRow 3 (tf GG.1),below_setRow' ((Below.refl _ _).alloc (Nat.le_refl _) _) (Nat.le_refl _) _⟩ ?_
       rintro w9 ⟨ha9,hb9⟩
       obtain ⟨b17,hb17⟩:∃b,b=w8.heap.size:=⟨_,rfl⟩
       rw [←hb17] at ha9 ⊢
       have A9:=Lib.hid ha9
       have O9:=Lib.hid (O8.out.below hb9)
       have DT9:=Lib.hid (DT8.out.chg (Chg.of_below hb9 fun _=> False) id)
       have HOT:=Lib.hid HOD.out.2.2.1
       clear ha9 hb9 hb17 hM0
       cases hmay:mayT S t with
       | true=>
        have HG1:Hid (GG=(t,true)):=Lib.hid (HGG.out.trans (put_get hmay))
        have HE0:Hid (ec=0):=Lib.hid (by rw [HEC.out,if_pos hmay])
        rw [HE0.out,HG1.out]
        rw [HG1.out] at A9
        clear hmay
        refine region_flow (n:=225) (by kernel_rfl) (by kernel_rfl) (by kernel_rfl) rfl
         (fun ii vv _=> (match ii with | 0 | 13=> vv=.int .i64 (0) | 1 | 2 | 3=> vv=.bool true | 4 | 5 | 9 | 10 | 11 | 12 | 14 | 15 | 20 | 21=> vv=.bool false | 6 | 8=> vv=.agg (arr .i64 3 (tf t)) | 7=> vv=.pointer (some ⟨bd,2,none⟩) | 16 | 17 | 18 | 19=> vv=undef | _=> True))
         (fun w w'=> Below w.heap.size w w') (fun _ _ h=> h) (fun _ _ _ _ h _=> h) ?_ ?_
        ·refine Each.all ?_
         refine ⟨?_,?_,?_,?_,?_,?_,?_,?_,?_,?_,?_,?_,?_,?_,?_,?_,?_,?_,?_,?_,?_,?_,trivial⟩
         ·intro a w2 hB hF hd
          rw [if_pos (wanted_none rfl)]
          exact flow_move _ (.inl rfl) (by simp) (hF.same 16 rfl)
         ·intro a w2 hB hF hd
          rw [if_pos (wanted_none rfl)]
          refine flow_val (fun h=> by cases h) (Go.Bas.run_eql_int rfl (hd 0 _ rfl (waits_spec rfl)) rfl) ?_
          exact rfl
         ·intro a w2 hB hF hd
          rw [if_pos (wanted_none rfl)]
          exact flow_move _ (.inl rfl) (by simp) (hd 1 _ rfl (waits_spec rfl))
         ·intro a w2 hB hF hd
          refine flow_wanted (wanted_yes rfl rfl (hd 2 _ rfl (waits_spec rfl)) rfl) ?_
          exact flow_move _ (.inl rfl) (by simp) (hF.same 18 rfl)
         ·intro a w2 hB hF hd
          refine flow_wanted (wanted_yes rfl rfl (hd 2 _ rfl (waits_spec rfl)) rfl) ?_
          exact flow_val (fun h=> by cases h) (run_not rfl (hd 3 _ rfl (waits_spec rfl))) rfl
         ·intro a w2 hB hF hd
          refine flow_wanted (wanted_yes rfl rfl (hd 2 _ rfl (waits_spec rfl)) rfl) ?_
          exact flow_move _ (.inl rfl) (by simp) (hd 4 _ rfl (waits_spec rfl))
         ·intro a w2 hB hF hd
          refine flow_wanted (wanted_yes rfl rfl (hd 5 _ rfl (waits_spec rfl)) rfl) ?_
          exact flow_val (fun h=> by cases h) (run_load_mid' rfl (hF.same 17 rfl) Try.underlying97 rfl Try.sizeTm (fun i hi=> (hB.cell (p:=⟨b17,0+i,none⟩) A9.out.lt).trans (by rw [Nat.zero_add];exact A9.out.cell i hi))) rfl
         ·intro a w2 hB hF hd
          refine flow_wanted (wanted_yes rfl rfl (hd 5 _ rfl (waits_spec rfl)) rfl) ?_
          refine flow_val (fun h=> by cases h) (run_field_at (m:=2) (k:=2) rfl (hF.same 13 rfl) (by kernel_rfl)) ?_
          exact rfl
         ·intro a w2 hB hF hd
          refine flow_wanted (wanted_yes rfl rfl (hd 5 _ rfl (waits_spec rfl)) rfl) ?_
          exact flow_val (fun h=> by cases h) (run_load_mid' rfl (hd 7 _ rfl (waits_spec rfl)) Try.underlying97 rfl Try.sizeTm (fun i hi=> (hB.cell (p:=⟨bd,2+i,none⟩) DT9.out.lt).trans (DT9.out.d2 i hi))) rfl
         ·intro a w2 hB hF hd
          refine flow_wanted (wanted_yes rfl rfl (hd 5 _ rfl (waits_spec rfl)) rfl) ?_
          exact flow_val (fun h=> by cases h) (run_neq_tm (t:=t) (u:=t) rfl (hd 6 _ rfl (waits_spec rfl)) (hd 8 _ rfl (waits_spec rfl)) HOT.out HOT.out) (congrArg Value.bool (show (!decide (t=t))=false by simp))
         ·intro a w2 hB hF hd
          refine flow_wanted (wanted_yes rfl rfl (hd 2 _ rfl (waits_spec rfl)) rfl) ?_
          exact flow_val (fun h=> by cases h) (run_pick rfl (hd 5 _ rfl (waits_spec rfl))) ((hd 9 _ rfl (waits_spec rfl)))
         ·intro a w2 hB hF hd
          rw [if_pos (wanted_none rfl)]
          exact flow_val (fun h=> by cases h) (run_pick rfl (hd 2 _ rfl (waits_spec rfl))) ((hd 10 _ rfl (waits_spec rfl)))
         ·intro a w2 hB hF hd
          rw [if_pos (wanted_none rfl)]
          exact flow_move _ (.inl rfl) (by simp) (hd 11 _ rfl (waits_spec rfl))
         ·intro a w2 hB hF hd
          refine flow_wanted (wanted_yes rfl rfl (hd 12 _ rfl (waits_spec rfl)) rfl) ?_
          exact flow_move _ (.inl rfl) (by simp) (hF.same 16 rfl)
         ·intro a w2 hB hF hd
          refine flow_wanted (wanted_yes rfl rfl (hd 12 _ rfl (waits_spec rfl)) rfl) ?_
          exact flow_val (fun h=> by cases h) (Go.Bas.run_neq_int rfl (hd 13 _ rfl (waits_spec rfl)) rfl) (congrArg Value.bool (rfl))
         ·intro a w2 hB hF hd
          refine flow_wanted (wanted_yes rfl rfl (hd 12 _ rfl (waits_spec rfl)) rfl) ?_
          exact flow_move _ (.inl rfl) (by simp) (hd 14 _ rfl (waits_spec rfl))
         ·intro a w2 hB hF hd
          rw [if_neg (by rw [wanted_some rfl rfl (hd 15 _ rfl (waits_spec rfl))];decide)]
          exact rfl
         ·intro a w2 hB hF hd
          rw [if_neg (by rw [wanted_some rfl rfl (hd 15 _ rfl (waits_spec rfl))];decide)]
          exact rfl
         ·intro a w2 hB hF hd
          rw [if_neg (by rw [wanted_some rfl rfl (hd 15 _ rfl (waits_spec rfl))];decide)]
          exact rfl
         ·intro a w2 hB hF hd
          rw [if_neg (by rw [wanted_some rfl rfl (hd 15 _ rfl (waits_spec rfl))];decide)]
          exact rfl
         ·intro a w2 hB hF hd
          refine flow_wanted (wanted_yes rfl rfl (hd 12 _ rfl (waits_spec rfl)) rfl) ?_
          exact flow_val (fun h=> by cases h) (run_pick rfl (hd 15 _ rfl (waits_spec rfl))) (rfl)
         ·intro a w2 hB hF hd
          rw [if_pos (wanted_none rfl)]
          exact flow_val (fun h=> by cases h) (run_pick rfl (hd 12 _ rfl (waits_spec rfl))) ((hd 20 _ rfl (waits_spec rfl)))
        ·intro a wf hB hF hS
         have ha:=puts_each rfl rfl hF [_,_,_,_,_,_,_,_,_,_,_,_,_,_,_,_,_,_,_,_,_,_] rfl ⟨hS 0 _ rfl,hS 1 _ rfl,hS 2 _ rfl,hS 3 _ rfl,hS 4 _ rfl,hS 5 _ rfl,hS 6 _ rfl,hS 7 _ rfl,hS 8 _ rfl,hS 9 _ rfl,hS 10 _ rfl,hS 11 _ rfl,hS 12 _ rfl,hS 13 _ rfl,hS 14 _ rfl,hS 15 _ rfl,hS 16 _ rfl,hS 17 _ rfl,hS 18 _ rfl,hS 19 _ rfl,hS 20 _ rfl,hS 21 _ rfl,trivial⟩
         simp only [puts,Act.put,List.setIfInBounds_toArray,List.set_cons_succ,List.set_cons_zero] at ha
         subst ha
         clear hS hF
         have Of:=Lib.hid (O9.out.below hB)
         clear hB
         go_wp2
         go_roundw
         case rel=> exact ⟨k+1,by have:=HLT.out;omega,by go_num,S.put t,F3,Of.out,by have:=(put_len S t).1;have:=HL1.out;omega,by have:=(put_len S t).2;rw [this];have:=HL2.out;omega⟩
         case measure=> have:=HLT.out;simp [intOf];omega
       | false=>
        have HE0:Hid (ec=2):=Lib.hid (by rw [HEC.out,if_neg (by rw [hmay];decide)])
        have HPN:=Lib.hid (put_none hmay)
        rw [HE0.out]
        clear hmay
        have HLN:Hid (∀{w2:World},Below w9.heap.size w9 w2→Calls Try.prog 56 #[.pointer (some ⟨p,0,none⟩)] w2 fun e w'=> e=.returned (.int .i64 (S.l.length:Int))∧Below w2.heap.size w2 w'):=Lib.hid fun hB=> (sLen_any (O9.out.below hB).st).mono fun e w' h=> ⟨by rw [h.1,HPN.out],by rw [h.2];exact Below.refl _ _⟩
        have HSN:Hid (((S.l.length:Int) !=(S.l.length:Int))=false):=Lib.hid (by simp)
        refine region_flow (n:=225) (by kernel_rfl) (by kernel_rfl) (by kernel_rfl) rfl
         (fun ii vv _=> (match ii with | 0 | 13=> vv=.int .i64 (2) | 1 | 2 | 11 | 12 | 19 | 20 | 21=> vv=.bool false | 3 | 4 | 5 | 6 | 7 | 8 | 9 | 10=> vv=undef | 14 | 15=> vv=.bool true | 16=> vv=.pointer (some ⟨p,0,none⟩) | 17 | 18=> vv=.int .i64 ((S.l.length:Int)) | _=> True))
         (fun w w'=> Below w.heap.size w w') (fun _ _ h=> h) (fun _ _ _ _ h _=> h) ?_ ?_
        ·refine Each.all ?_
         refine ⟨?_,?_,?_,?_,?_,?_,?_,?_,?_,?_,?_,?_,?_,?_,?_,?_,?_,?_,?_,?_,?_,?_,trivial⟩
         ·intro a w2 hB hF hd
          rw [if_pos (wanted_none rfl)]
          exact flow_move _ (.inl rfl) (by simp) (hF.same 16 rfl)
         ·intro a w2 hB hF hd
          rw [if_pos (wanted_none rfl)]
          refine flow_val (fun h=> by cases h) (Go.Bas.run_eql_int rfl (hd 0 _ rfl (waits_spec rfl)) rfl) ?_
          exact rfl
         ·intro a w2 hB hF hd
          rw [if_pos (wanted_none rfl)]
          exact flow_move _ (.inl rfl) (by simp) (hd 1 _ rfl (waits_spec rfl))
         ·intro a w2 hB hF hd
          rw [if_neg (by rw [wanted_some rfl rfl (hd 2 _ rfl (waits_spec rfl))];decide)]
          exact rfl
         ·intro a w2 hB hF hd
          rw [if_neg (by rw [wanted_some rfl rfl (hd 2 _ rfl (waits_spec rfl))];decide)]
          exact rfl
         ·intro a w2 hB hF hd
          rw [if_neg (by rw [wanted_some rfl rfl (hd 2 _ rfl (waits_spec rfl))];decide)]
          exact rfl
         ·intro a w2 hB hF hd
          rw [if_neg (by rw [wanted_undef rfl rfl (hd 5 _ rfl (waits_spec rfl))];decide)]
          exact rfl
         ·intro a w2 hB hF hd
          rw [if_neg (by rw [wanted_undef rfl rfl (hd 5 _ rfl (waits_spec rfl))];decide)]
          exact rfl
         ·intro a w2 hB hF hd
          rw [if_neg (by rw [wanted_undef rfl rfl (hd 5 _ rfl (waits_spec rfl))];decide)]
          exact rfl
         ·intro a w2 hB hF hd
          rw [if_neg (by rw [wanted_undef rfl rfl (hd 5 _ rfl (waits_spec rfl))];decide)]
          exact rfl
         ·intro a w2 hB hF hd
          rw [if_neg (by rw [wanted_some rfl rfl (hd 2 _ rfl (waits_spec rfl))];decide)]
          exact rfl
         ·intro a w2 hB hF hd
          rw [if_pos (wanted_none rfl)]
          exact flow_val (fun h=> by cases h) (run_pick rfl (hd 2 _ rfl (waits_spec rfl))) (rfl)
         ·intro a w2 hB hF hd
          rw [if_pos (wanted_none rfl)]
          exact flow_move _ (.inl rfl) (by simp) (hd 11 _ rfl (waits_spec rfl))
         ·intro a w2 hB hF hd
          refine flow_wanted (wanted_yes rfl rfl (hd 12 _ rfl (waits_spec rfl)) rfl) ?_
          exact flow_move _ (.inl rfl) (by simp) (hF.same 16 rfl)
         ·intro a w2 hB hF hd
          refine flow_wanted (wanted_yes rfl rfl (hd 12 _ rfl (waits_spec rfl)) rfl) ?_
          exact flow_val (fun h=> by cases h) (Go.Bas.run_neq_int rfl (hd 13 _ rfl (waits_spec rfl)) rfl) (congrArg Value.bool (rfl))
         ·intro a w2 hB hF hd
          refine flow_wanted (wanted_yes rfl rfl (hd 12 _ rfl (waits_spec rfl)) rfl) ?_
          exact flow_move _ (.inl rfl) (by simp) (hd 14 _ rfl (waits_spec rfl))
         ·intro a w2 hB hF hd
          refine flow_wanted (wanted_yes rfl rfl (hd 15 _ rfl (waits_spec rfl)) rfl) ?_
          exact flow_val (fun h=> by cases h) (run_load_pt rfl (hF.same 10 rfl) Try.underlying90 ((hB.cell (p:=⟨bs,0,none⟩) O9.out.s.lt).trans O9.out.s.cell)) rfl
         ·intro a w2 hB hF hd
          refine flow_wanted (wanted_yes rfl rfl (hd 15 _ rfl (waits_spec rfl)) rfl) ?_
          refine flow_call _ _ _ rfl Try.call56 _ (args1 (hd 16 _ rfl (waits_spec rfl))) (by simp) ((HLN.out hB).mono ?_)
          rintro e w3 ⟨rfl,hb⟩;exact ⟨_,rfl,rfl,hb⟩
         ·intro a w2 hB hF hd
          refine flow_wanted (wanted_yes rfl rfl (hd 15 _ rfl (waits_spec rfl)) rfl) ?_
          exact flow_move _ (.inl rfl) (by simp) (hF.same 14 rfl)
         ·intro a w2 hB hF hd
          refine flow_wanted (wanted_yes rfl rfl (hd 15 _ rfl (waits_spec rfl)) rfl) ?_
          exact flow_val (fun h=> by cases h) (Go.Bas.run_neq_int rfl (hd 17 _ rfl (waits_spec rfl)) (hd 18 _ rfl (waits_spec rfl))) (congrArg Value.bool (HSN.out))
         ·intro a w2 hB hF hd
          refine flow_wanted (wanted_yes rfl rfl (hd 12 _ rfl (waits_spec rfl)) rfl) ?_
          exact flow_val (fun h=> by cases h) (run_pick rfl (hd 15 _ rfl (waits_spec rfl))) ((hd 19 _ rfl (waits_spec rfl)))
         ·intro a w2 hB hF hd
          rw [if_pos (wanted_none rfl)]
          exact flow_val (fun h=> by cases h) (run_pick rfl (hd 12 _ rfl (waits_spec rfl))) ((hd 20 _ rfl (waits_spec rfl)))
        ·intro a wf hB hF hS
         have ha:=puts_each rfl rfl hF [_,_,_,_,_,_,_,_,_,_,_,_,_,_,_,_,_,_,_,_,_,_] rfl ⟨hS 0 _ rfl,hS 1 _ rfl,hS 2 _ rfl,hS 3 _ rfl,hS 4 _ rfl,hS 5 _ rfl,hS 6 _ rfl,hS 7 _ rfl,hS 8 _ rfl,hS 9 _ rfl,hS 10 _ rfl,hS 11 _ rfl,hS 12 _ rfl,hS 13 _ rfl,hS 14 _ rfl,hS 15 _ rfl,hS 16 _ rfl,hS 17 _ rfl,hS 18 _ rfl,hS 19 _ rfl,hS 20 _ rfl,hS 21 _ rfl,trivial⟩
         simp only [puts,Act.put,List.setIfInBounds_toArray,List.set_cons_succ,List.set_cons_zero] at ha
         subst ha
         clear hS hF
         have Of:=Lib.hid (O9.out.below hB)
         clear hB
         go_wp2
         go_roundw
         case rel=> exact ⟨k+1,by have:=HLT.out;omega,by go_num,S.put t,F3,Of.out,by have:=(put_len S t).1;have:=HL1.out;omega,by have:=(put_len S t).2;rw [this];have:=HL2.out;omega⟩
         case measure=> have:=HLT.out;simp [intOf];omega
      ·have hk1b:(kd==1)=false:=by simpa using hk1
       by_cases hk2:kd=2
       ·subst hk2
        have D1:w6.cell? ⟨bd,1,none⟩=some (.int .i64 n):=DT6.out.d1
        clear hk1 hk1b
        go_wp2_with fail
        refine (tDraw_any O6.out.st HNS.out n (by have:=HL1.out;have:=HM30.out;omega)).mono ?_
        rintro e w7 ⟨rfl,F3,h3,c3,f3⟩
        have O7:=Lib.hid (O6.out.chg HN.out HDN.out h3 c3 f3)
        have DT7:=Lib.hid (DT6.out.chg c3 HNX.out)
        clear h3 c3 f3 cs D0 D1
        have HLD:=Lib.hid (draw_len S n)
        by_cases hdr:isSort n=true∧nxt S.l n≤topT
        ·obtain ⟨hd1,hd2⟩:=draw_yes hdr.1 hdr.2
         rw [hd1]
         have HD2:=Lib.hid hd2
         clear hdr hd1 hd2
         go_upto_region 35 with (fail)
         have HLN:Hid (∀{w2:World},Below w7.heap.size w7 w2→Calls Try.prog 56 #[.pointer (some ⟨p,0,none⟩)] w2 fun e w'=> e=.returned (.int .i64 ((S.l.length:Int)+1))∧Below w2.heap.size w2 w'):=Lib.hid fun hB=> (sLen_any (O7.out.below hB).st).mono fun e w' h=> ⟨by rw [h.1,HD2.out];rfl,by rw [h.2];exact Below.refl _ _⟩
         have HSN:Hid (((S.l.length:Int) !=(S.l.length:Int))=false):=Lib.hid (by simp)
         have HSM:Hid (((S.l.length:Int)+1 !=(S.l.length:Int)+1)=false):=Lib.hid (by simp)
         have HWR:Hid (IntKind.i64.wrap ((S.l.length:Int)+1)=(S.l.length:Int)+1):=Lib.hid (wrap_i64_id (by omega) (by have:=HL1.out;have:=HM30.out;omega))
         refine region_flow (n:=225) (by kernel_rfl) (by kernel_rfl) (by kernel_rfl) rfl
          (fun ii vv _=> (match ii with | 0=> vv=.int .i64 (0) | 1 | 2=> vv=.bool true | 3 | 4 | 9=> vv=.int .i64 ((S.l.length:Int)) | 5 | 6 | 11 | 12 | 13=> vv=.bool false | 7=> vv=.pointer (some ⟨p,0,none⟩) | 8 | 10=> vv=.int .i64 ((S.l.length:Int)+1) | _=> True))
          (fun w w'=> Below w.heap.size w w') (fun _ _ h=> h) (fun _ _ _ _ h _=> h) ?_ ?_
         ·refine Each.all ?_
          refine ⟨?_,?_,?_,?_,?_,?_,?_,?_,?_,?_,?_,?_,?_,?_,trivial⟩
          ·intro a w2 hB hF hd
           rw [if_pos (wanted_none rfl)]
           exact flow_move _ (.inl rfl) (by simp) (hF.same 20 rfl)
          ·intro a w2 hB hF hd
           rw [if_pos (wanted_none rfl)]
           refine flow_val (fun h=> by cases h) (Go.Bas.run_eql_int rfl (hd 0 _ rfl (waits_spec rfl)) rfl) ?_
           exact rfl
          ·intro a w2 hB hF hd
           rw [if_pos (wanted_none rfl)]
           exact flow_move _ (.inl rfl) (by simp) (hd 1 _ rfl (waits_spec rfl))
          ·intro a w2 hB hF hd
           refine flow_wanted (wanted_yes rfl rfl (hd 2 _ rfl (waits_spec rfl)) rfl) ?_
           exact flow_move _ (.inl rfl) (by simp) (hF.same 19 rfl)
          ·intro a w2 hB hF hd
           refine flow_wanted (wanted_yes rfl rfl (hd 2 _ rfl (waits_spec rfl)) rfl) ?_
           exact flow_move _ (.inl rfl) (by simp) (hF.same 14 rfl)
          ·intro a w2 hB hF hd
           refine flow_wanted (wanted_yes rfl rfl (hd 2 _ rfl (waits_spec rfl)) rfl) ?_
           exact flow_val (fun h=> by cases h) (Go.Bas.run_neq_int rfl (hd 3 _ rfl (waits_spec rfl)) (hd 4 _ rfl (waits_spec rfl))) (congrArg Value.bool (HSN.out))
          ·intro a w2 hB hF hd
           refine flow_wanted (wanted_yes rfl rfl (hd 2 _ rfl (waits_spec rfl)) rfl) ?_
           exact flow_move _ (.inl rfl) (by simp) (hd 5 _ rfl (waits_spec rfl))
          ·intro a w2 hB hF hd
           refine flow_wanted (wanted_yes rfl rfl (hd 6 _ rfl (waits_spec rfl)) rfl) ?_
           exact flow_val (fun h=> by cases h) (run_load_pt rfl (hF.same 10 rfl) Try.underlying90 ((hB.cell (p:=⟨bs,0,none⟩) O7.out.s.lt).trans O7.out.s.cell)) rfl
          ·intro a w2 hB hF hd
           refine flow_wanted (wanted_yes rfl rfl (hd 6 _ rfl (waits_spec rfl)) rfl) ?_
           refine flow_call _ _ _ rfl Try.call56 _ (args1 (hd 7 _ rfl (waits_spec rfl))) (by simp) ((HLN.out hB).mono ?_)
           rintro e w3 ⟨rfl,hb⟩;exact ⟨_,rfl,rfl,hb⟩
          ·intro a w2 hB hF hd
           refine flow_wanted (wanted_yes rfl rfl (hd 6 _ rfl (waits_spec rfl)) rfl) ?_
           exact flow_move _ (.inl rfl) (by simp) (hF.same 14 rfl)
          ·intro a w2 hB hF hd
           refine flow_wanted (wanted_yes rfl rfl (hd 6 _ rfl (waits_spec rfl)) rfl) ?_
           exact flow_val (fun h=> by cases h) (Go.Bas.run_add rfl (hd 9 _ rfl (waits_spec rfl)) rfl) (congrArg (Value.int .i64) (HWR.out))
          ·intro a w2 hB hF hd
           refine flow_wanted (wanted_yes rfl rfl (hd 6 _ rfl (waits_spec rfl)) rfl) ?_
           exact flow_val (fun h=> by cases h) (Go.Bas.run_neq_int rfl (hd 8 _ rfl (waits_spec rfl)) (hd 10 _ rfl (waits_spec rfl))) (congrArg Value.bool (HSM.out))
          ·intro a w2 hB hF hd
           refine flow_wanted (wanted_yes rfl rfl (hd 2 _ rfl (waits_spec rfl)) rfl) ?_
           exact flow_val (fun h=> by cases h) (run_pick rfl (hd 6 _ rfl (waits_spec rfl))) ((hd 11 _ rfl (waits_spec rfl)))
          ·intro a w2 hB hF hd
           rw [if_pos (wanted_none rfl)]
           exact flow_val (fun h=> by cases h) (run_pick rfl (hd 2 _ rfl (waits_spec rfl))) ((hd 12 _ rfl (waits_spec rfl)))
         ·intro a wf hB hF hS
          have ha:=puts_each rfl rfl hF [_,_,_,_,_,_,_,_,_,_,_,_,_,_] rfl ⟨hS 0 _ rfl,hS 1 _ rfl,hS 2 _ rfl,hS 3 _ rfl,hS 4 _ rfl,hS 5 _ rfl,hS 6 _ rfl,hS 7 _ rfl,hS 8 _ rfl,hS 9 _ rfl,hS 10 _ rfl,hS 11 _ rfl,hS 12 _ rfl,hS 13 _ rfl,trivial⟩
          simp only [puts,Act.put,List.setIfInBounds_toArray,List.set_cons_succ,List.set_cons_zero] at ha
          subst ha
          clear hS hF
          have Of:=Lib.hid (O7.out.below hB)
          clear hB
          go_wp2
          go_roundw
          case rel=> exact ⟨k+1,by have:=HLT.out;omega,by go_num,S.draw n,F3,Of.out,by have:=HLD.out.1;have:=HL1.out;omega,by rw [HLD.out.2];have:=HL2.out;omega⟩
          case measure=> have:=HLT.out;simp [intOf];omega
        ·have HE0:=Lib.hid (draw_no hdr)
         obtain ⟨da,hda⟩:∃x,x=drawA S n:=⟨_,rfl⟩
         rw [←hda] at HE0 ⊢
         clear hdr hda
         go_upto_region 35 with (fail)
         refine region_flow (n:=225) (by kernel_rfl) (by kernel_rfl) (by kernel_rfl) rfl
          (fun ii vv _=> (match ii with | 0=> vv=.int .i64 (da.2) | 1 | 2 | 13=> vv=.bool false | 3 | 4 | 5 | 6 | 7 | 8 | 9 | 10 | 11 | 12=> vv=undef | _=> True))
          (fun w w'=> Below w.heap.size w w') (fun _ _ h=> h) (fun _ _ _ _ h _=> h) ?_ ?_
         ·refine Each.all ?_
          refine ⟨?_,?_,?_,?_,?_,?_,?_,?_,?_,?_,?_,?_,?_,?_,trivial⟩
          ·intro a w2 hB hF hd
           rw [if_pos (wanted_none rfl)]
           exact flow_move _ (.inl rfl) (by simp) (hF.same 20 rfl)
          ·intro a w2 hB hF hd
           rw [if_pos (wanted_none rfl)]
           refine flow_val (fun h=> by cases h) (Go.Bas.run_eql_int rfl (hd 0 _ rfl (waits_spec rfl)) rfl) ?_
           exact congrArg Value.bool HE0.out
          ·intro a w2 hB hF hd
           rw [if_pos (wanted_none rfl)]
           exact flow_move _ (.inl rfl) (by simp) (hd 1 _ rfl (waits_spec rfl))
          ·intro a w2 hB hF hd
           rw [if_neg (by rw [wanted_some rfl rfl (hd 2 _ rfl (waits_spec rfl))];decide)]
           exact rfl
          ·intro a w2 hB hF hd
           rw [if_neg (by rw [wanted_some rfl rfl (hd 2 _ rfl (waits_spec rfl))];decide)]
           exact rfl
          ·intro a w2 hB hF hd
           rw [if_neg (by rw [wanted_some rfl rfl (hd 2 _ rfl (waits_spec rfl))];decide)]
           exact rfl
          ·intro a w2 hB hF hd
           rw [if_neg (by rw [wanted_some rfl rfl (hd 2 _ rfl (waits_spec rfl))];decide)]
           exact rfl
          ·intro a w2 hB hF hd
           rw [if_neg (by rw [wanted_undef rfl rfl (hd 6 _ rfl (waits_spec rfl))];decide)]
           exact rfl
          ·intro a w2 hB hF hd
           rw [if_neg (by rw [wanted_undef rfl rfl (hd 6 _ rfl (waits_spec rfl))];decide)]
           exact rfl
          ·intro a w2 hB hF hd
           rw [if_neg (by rw [wanted_undef rfl rfl (hd 6 _ rfl (waits_spec rfl))];decide)]
           exact rfl
          ·intro a w2 hB hF hd
           rw [if_neg (by rw [wanted_undef rfl rfl (hd 6 _ rfl (waits_spec rfl))];decide)]
           exact rfl
          ·intro a w2 hB hF hd
           rw [if_neg (by rw [wanted_undef rfl rfl (hd 6 _ rfl (waits_spec rfl))];decide)]
           exact rfl
          ·intro a w2 hB hF hd
           rw [if_neg (by rw [wanted_some rfl rfl (hd 2 _ rfl (waits_spec rfl))];decide)]
           exact rfl
          ·intro a w2 hB hF hd
           rw [if_pos (wanted_none rfl)]
           exact flow_val (fun h=> by cases h) (run_pick rfl (hd 2 _ rfl (waits_spec rfl))) (rfl)
         ·intro a wf hB hF hS
          have ha:=puts_each rfl rfl hF [_,_,_,_,_,_,_,_,_,_,_,_,_,_] rfl ⟨hS 0 _ rfl,hS 1 _ rfl,hS 2 _ rfl,hS 3 _ rfl,hS 4 _ rfl,hS 5 _ rfl,hS 6 _ rfl,hS 7 _ rfl,hS 8 _ rfl,hS 9 _ rfl,hS 10 _ rfl,hS 11 _ rfl,hS 12 _ rfl,hS 13 _ rfl,trivial⟩
          simp only [puts,Act.put,List.setIfInBounds_toArray,List.set_cons_succ,List.set_cons_zero] at ha
          subst ha
          clear hS hF
          have Of:=Lib.hid (O7.out.below hB)
          clear hB
          go_wp2
          go_roundw
          case rel=> exact ⟨k+1,by have:=HLT.out;omega,by go_num,S.draw n,F3,Of.out,by have:=HLD.out.1;have:=HL1.out;omega,by rw [HLD.out.2];have:=HL2.out;omega⟩
          case measure=> have:=HLT.out;simp [intOf];omega
       ·have hk2b:(kd==2)=false:=by simpa using hk2
        have D5:w6.cell? ⟨bd,5,none⟩=some (.slice av5 b.length cv5):=DT6.out.d5
        have HOX:Hid (okX b):=Lib.hid ⟨HOD.out.2.2.2,by have h9:b.length≤100:=H100.out;omega⟩
        clear hk1 hk2
        go_wp2_with fail
        refine (tText_any O6.out.st HNS.out b HOX.out _ VR6.out (fun h0 c hc hf=> by have:=HVB.out h0 c hc;have:=O6.out.st.hi hf;have:=HN.out;omega) (by have:=HL1.out;have:=HM30.out;omega) (by have:=HL2.out;have:=HM30.out;omega)).mono ?_
        rintro e w7 ⟨rfl,F3,h3,c3,f3⟩
        have O7:=Lib.hid (O6.out.chg HN.out HDN.out h3 c3 f3)
        have DT7:=Lib.hid (DT6.out.chg c3 HNX.out)
        have VR7:=Lib.hid (VR6.out.chgZ c3 fun h0 c hc hf=> by have:=HVB.out h0 c hc;have:=O6.out.st.hi hf;have:=HN.out;omega)
        have HLX:=Lib.hid (text_len S b)
        have HTB:=Lib.hid (text_bytes O6.out.st.ok b)
        obtain ⟨xa,hxa⟩:∃x,x=textA S b:=⟨_,rfl⟩
        rw [←hxa] at HTB ⊢
        clear h3 c3 f3 cs D0 D5 hxa
        have cs:=O7.out.s.cell
        go_wp2_with fail
        refine (sBytes_any O7.out.st xa (by have:=HLX.out.1;have:=HL1.out;have:=HM30.out;omega) (by have:=HLX.out.2;have:=HL2.out;have:=HM30.out;omega)).mono ?_
        rw [HTB.out]
        rintro e w8 ⟨v9,rfl,hv9,b8⟩
        have O8:=Lib.hid (O7.out.below b8)
        have DT8:=Lib.hid (DT7.out.chg (Chg.of_below b8 fun _=> False) id)
        have VR8:=Lib.hid (VR7.out.below b8)
        have VX8:Hid (Rd .u8 w8 v9 b.length (bf b)):=Lib.hid hv9
        clear b8 cs hv9
        go_upto_region 26 with (fail)
        refine region_flow (n:=225) (by kernel_rfl) (by kernel_rfl) (by kernel_rfl) rfl
         (fun ii vv ww=> (match ii with | 0=> vv=.int .i64 (0) | 1 | 2 | 4 | 5 | 6 | 11 | 12=> vv=.bool false | 3 | 10=> vv=.bool true | 8=> vv=.pointer (some ⟨bd,5,none⟩) | 9=> vv=.slice av5 b.length cv5 | _=> True)∧(ii=7→Rd .u8 ww vv b.length (bf b)))
         (fun w w'=> Below w.heap.size w w') (fun _ _ h=> h) (fun i v w w' h hE=> ⟨h.1,fun e=> Rd.below (h.2 e) hE⟩) ?_ ?_
        ·refine Each.all ?_
         refine ⟨?_,?_,?_,?_,?_,?_,?_,?_,?_,?_,?_,?_,?_,trivial⟩
         ·intro a w2 hB hF hd
          rw [if_pos (wanted_none rfl)]
          exact flow_move _ (.inl rfl) (by simp) ⟨(hF.same 22 rfl),fun h=> absurd h (by decide)⟩
         ·intro a w2 hB hF hd
          rw [if_pos (wanted_none rfl)]
          exact flow_val (fun h=> by cases h) (Go.Bas.run_neq_int rfl ((hd 0 _ rfl (waits_spec rfl)).1) rfl) ⟨(congrArg Value.bool (rfl)),fun h=> absurd h (by decide)⟩
         ·intro a w2 hB hF hd
          rw [if_pos (wanted_none rfl)]
          exact flow_move _ (.inl rfl) (by simp) ⟨((hd 1 _ rfl (waits_spec rfl)).1),fun h=> absurd h (by decide)⟩
         ·intro a w2 hB hF hd
          refine flow_wanted (wanted_yes rfl rfl ((hd 2 _ rfl (waits_spec rfl)).1) rfl) ?_
          exact flow_move _ (.inl rfl) (by simp) ⟨(hF.same 24 rfl),fun h=> absurd h (by decide)⟩
         ·intro a w2 hB hF hd
          refine flow_wanted (wanted_yes rfl rfl ((hd 2 _ rfl (waits_spec rfl)).1) rfl) ?_
          exact flow_val (fun h=> by cases h) (run_not rfl ((hd 3 _ rfl (waits_spec rfl)).1)) ⟨rfl,fun h=> absurd h (by decide)⟩
         ·intro a w2 hB hF hd
          rw [if_pos (wanted_none rfl)]
          exact flow_val (fun h=> by cases h) (run_pick rfl ((hd 2 _ rfl (waits_spec rfl)).1)) ⟨(((hd 4 _ rfl (waits_spec rfl)).1)),fun h=> absurd h (by decide)⟩
         ·intro a w2 hB hF hd
          rw [if_pos (wanted_none rfl)]
          exact flow_move _ (.inl rfl) (by simp) ⟨((hd 5 _ rfl (waits_spec rfl)).1),fun h=> absurd h (by decide)⟩
         ·intro a w2 hB hF hd
          refine flow_wanted (wanted_yes rfl rfl ((hd 6 _ rfl (waits_spec rfl)).1) rfl) ?_
          exact flow_move _ (.inl rfl) (by simp) ⟨trivial,fun _=> (by rw [show a.eval (Operand.tmp 23)= _ from hF.same 23 rfl];exact VX8.out.below hB)⟩
         ·intro a w2 hB hF hd
          refine flow_wanted (wanted_yes rfl rfl ((hd 6 _ rfl (waits_spec rfl)).1) rfl) ?_
          refine flow_val (fun h=> by cases h) (run_field_at (m:=0) (k:=5) rfl (hF.same 13 rfl) (by kernel_rfl)) ?_
          exact ⟨rfl,fun h=> absurd h (by decide)⟩
         ·intro a w2 hB hF hd
          refine flow_wanted (wanted_yes rfl rfl ((hd 6 _ rfl (waits_spec rfl)).1) rfl) ?_
          exact flow_val (fun h=> by cases h) (run_load_slice rfl ((hd 8 _ rfl (waits_spec rfl)).1) Try.underlying23 ((hB.cell (p:=⟨bd,5,none⟩) DT8.out.lt).trans DT8.out.d5)) ⟨rfl,fun h=> absurd h (by decide)⟩
         ·intro a w2 hB hF hd
          refine flow_wanted (wanted_yes rfl rfl ((hd 6 _ rfl (waits_spec rfl)).1) rfl) ?_
          refine flow_call _ _ _ rfl Try.call24 _ (args2 rfl ((hd 9 _ rfl (waits_spec rfl)).1)) (by simp) ((same_yes _ _ _ _ _ _ ((hd 7 _ rfl (waits_spec rfl)).2 rfl) (VR8.out.below hB) (fun _ _=> rfl)).mono ?_)
          rintro e w3 ⟨rfl,hb⟩;exact ⟨_,rfl,⟨rfl,fun h=> absurd h (by decide)⟩,hb⟩
         ·intro a w2 hB hF hd
          refine flow_wanted (wanted_yes rfl rfl ((hd 6 _ rfl (waits_spec rfl)).1) rfl) ?_
          exact flow_val (fun h=> by cases h) (run_not rfl ((hd 10 _ rfl (waits_spec rfl)).1)) ⟨rfl,fun h=> absurd h (by decide)⟩
         ·intro a w2 hB hF hd
          rw [if_pos (wanted_none rfl)]
          exact flow_val (fun h=> by cases h) (run_pick rfl ((hd 6 _ rfl (waits_spec rfl)).1)) ⟨(((hd 11 _ rfl (waits_spec rfl)).1)),fun h=> absurd h (by decide)⟩
        ·intro a wf hB hF hS
         obtain ⟨x98,hx98⟩:∃x,x=a.tmps.getD 98 undef:=⟨_,rfl⟩
         have ha:=puts_each rfl rfl hF [_,_,_,_,_,_,_,x98,_,_,_,_,_] rfl ⟨(hS 0 _ rfl).1,(hS 1 _ rfl).1,(hS 2 _ rfl).1,(hS 3 _ rfl).1,(hS 4 _ rfl).1,(hS 5 _ rfl).1,(hS 6 _ rfl).1,hx98.symm,(hS 8 _ rfl).1,(hS 9 _ rfl).1,(hS 10 _ rfl).1,(hS 11 _ rfl).1,(hS 12 _ rfl).1,trivial⟩
         simp only [puts,Act.put,List.setIfInBounds_toArray,List.set_cons_succ,List.set_cons_zero] at ha
         subst ha
         clear hx98
         clear hS hF
         have Of:=Lib.hid (O8.out.below hB)
         clear hB
         go_wp2
         go_roundw
         case rel=> exact ⟨k+1,by have:=HLT.out;omega,by go_num,S.text b,F3,Of.out,by have:=HLX.out.1;have:=HL1.out;omega,by have:=HLX.out.2;have:=HL2.out;omega⟩
         case measure=> have:=HLT.out;simp [intOf];omega
     ·obtain rfl:k=m:=by omega
      clear hlt
      have cs:=HO.out.s.cell
      go_wp2_with fail
      refine (tAll_any wr _ rfl).mono ?_
      rintro e wA ⟨rfl,hxA,bA,hsA⟩
      obtain ⟨q2,hq2⟩:∃q,q=wr.heap.size:=⟨_,rfl⟩
      rw [←hq2] at hxA ⊢
      have XQ:=Lib.hid hxA
      have OA:=Lib.hid (HO.out.below bA)
      have HSL:=Lib.hid (show S.l.length≤30 by have:=HL1.out;have:=HM30.out;omega)
      have HQM:=Lib.hid (show q2≠mm by have:=HO.out.mp.lt;omega)
      clear hq2 hsA bA cs
      obtain ⟨mb,mt,vl,vb,tv,hts,hokS,hF⟩:=OA.out.st
      have TSA:=Lib.hid hts
      have HOKS:=Lib.hid hokS
      have HGL:Hid (∀b,TG p mb mt vl vb S.tx.length tv q2 b→b<wA.heap.size∧b≠mm):=Lib.hid fun b hb=> hb.elim (fun h=> ⟨hts.lt h,fun e=> OA.out.n3 ((hF mm).2 (e▸h))⟩) fun h=> ⟨h▸hxA.lt,fun e=> HQM.out (h▸e)⟩
      have hstop:=tAll_stops 8 (by decide) hts q2 hxA (by have:=HSL.out;omega)
      clear hts hokS hF hxA
      go_wp2
      refine (wpIn_wide (n:=9)).1 ?_
      refine wpIn_rangeFunc_ownH (F:=Fence.wide) (n:=9) rfl (by decide) (gf:=107) rfl trivial (enters_of Try.func107 (by kernel_rfl) rfl) hstop (fun h k=> h.trans k) (keepF_b fun b hb=> (HGL.out b hb).1) (Below.refl _ _) (fun _=> rfl)
       (fun pre W=> MetI S.l wA mm pre W) (fun cd pre _=> pre≠List.range pre.length∧cd=Code.ret) ?hI ?hIx ?h0 (fun x a' W=> ∃Bx,wA.heap.size≤Bx∧Arr .i64 W Bx 3 (tf (tmAt S.l x))∧a'={ tmps:=#[.slice av k cv,undef,.pointer (some ⟨B,0,none⟩),.pointer none,.int .i64 0,.int .i64 1,.int .i64 0,.int .i64 1,.int .i64 0,.int .i64 1,.pointer (some ⟨bs,0,none⟩),.pointer (some ⟨mm+1,0,none⟩),undef,u13,u14,u15,u16,u17,u18,u19,u20,u21,u22,u23,u24,.int .i64 (x:Int),.pointer (some ⟨Bx,0,none⟩),.bool true,.bool false,.tuple #[.int .i64 0,.int .i64 1],.pointer none,.agg #[.int .i64 0,.int .i64 0,.int .i64 0],.tuple #[.int .i64 0,.int .i64 1],.int .i64 0,.int .i64 1,.int .i64 1,.bool false,.tuple #[.int .i64 0,.int .i64 1],.pointer none,.tuple #[.int .i64 0,.int .i64 1],.int .i64 0,.int .i64 1,.int .i64 1,.bool false,.tuple #[.int .i64 0,.int .i64 1],.pointer none,.tuple #[.int .i64 0,.int .i64 1],.int .i64 0,.int .i64 1,.int .i64 1,.bool false,.bool false,.pointer none,.int .i64 0,.pointer none,.int .i64 0,.int .i64 0,.bool false,.bool false,.pointer none,.func (.func 107) #[] #[.pointer (some ⟨q5,0,none⟩)],undef,undef,.slice av k cv,.bool true,.bool false,.pointer (some ⟨p,0,none⟩),.map (some mm),.slice av k cv,.int .i64 (k:Int),.int .i64 (k:Int),.bool false,u72,u73,u74,u75,u76,u77,u78,u79,u80,u81,u82,u83,u84,u85,u86,u87,u88,u89,u90,u91,u92,u93,u94,u95,u96,u97,u98,u99,u100,u101,u102,u103,u104,u105,u106,u107,u108,u109,u110,u111,u112,u113,u114,u115,u116,u117,u118,u119,u120,u121,u122,u123,u124,u125,u126,u127,u128,u129,u130,u131,u132,u133,u134,u135,u136,u137,u138,u139,u140,u141,u142,u143,u144,u145,u146,u147,u148,u149,u150,u151,u152,u153,u154,u155,u156,u157,u158,u159,u160,u161,u162,u163,u164,.pointer (some ⟨p,0,none⟩),.func (.func 107) #[] #[.pointer (some ⟨q2,0,none⟩)],.int .i64 (x:Int),tmV (tmAt S.l x),undef,undef,undef,undef,undef,undef,undef,undef,undef,undef,undef,undef,undef,undef,undef,undef,undef,undef,undef,undef,undef,undef,undef,undef,undef,undef,undef,undef,undef,undef,undef,undef,undef,undef,undef,undef,undef,undef,undef,undef,undef,undef,undef,undef,undef,undef,undef,undef,undef,undef,undef,undef,undef,undef,undef,undef],defers:= [] }) ?hAx ?assign ?body ?done ?stop
      case hI=> exact metI_own OA.out.mp.lt
      case hIx=> exact fun c=> ownFrom_pure _ _
      case h0=> exact ⟨Chg.refl _ _,List.nodup_nil,OA.out.mp.congr fun i hi=> absurd hi (Nat.not_lt_zero _)⟩
      case hAx=>
       rintro x a' s W W' row ⟨Bx,h1,h2,h3⟩ hg hr
       exact ⟨Bx,h1,(arr_own Bx .i64 3 fun _:Unit=> tf (tmAt S.l x)).from _ s W W' row h2 hg hr,h3⟩
      case assign=>
       intro l pre x W K hi hK
       gi_wp2
       exact hK _ _ ((KeepsOthers.alloc _ _).from _) (KeepF.ofBelow ((Below.refl _ W).alloc (Nat.le_refl _) _) fun b hb=> Nat.lt_of_lt_of_le (HGL.out b hb).1 hi.1.size) ((metI_own OA.out.mp.lt).alloc _ hi) ⟨W.heap.size,hi.1.size,Arr.newAt rfl rfl,rfl⟩
      case body=>
       rintro l pre x a' W hl ⟨r,hr⟩ ⟨i1,i2,i3⟩ ⟨Bx,hBx,hX,rfl⟩ hlt
       obtain ⟨t,ht⟩:∃t,t=tmAt S.l x:=⟨_,rfl⟩
       rw [←ht] at hX ⊢
       have HOT:Hid (okTm t):=Lib.hid (by
        rw [ht]
        by_cases hx:x<S.l.length
        ·rw [tmAt_eq (List.getElem?_eq_getElem hx)];exact TSA.out.okt _ (List.getElem_mem hx)
        ·unfold tmAt;rw [List.getD_eq_getElem?_getD,List.getElem?_eq_none (by omega)];exact ⟨⟨by decide,by decide⟩,⟨by decide,by decide⟩,⟨by decide,by decide⟩⟩)
       have I1:=Lib.hid i1
       have I2:=Lib.hid i2
       have I3:=Lib.hid i3
       have HT:=Lib.hid ht
       have HX:=Lib.hid hX
       have HBX:=Lib.hid hBx
       have HLT:=Lib.hid hlt
       have SB1:Hid (Boxed W bs 90 (.pointer (some ⟨p,0,none⟩))):=Lib.hid (boxed_chg OA.out.s i1 fun h=> by have h1:bs=mm:=h;have:=HBM.out.1;omega)
       have XB1:Hid (Boxed W B 4 (.bool false)):=Lib.hid (boxed_chg OA.out.x i1 fun h=> by have h1:B=mm:=h;have:=HBM.out.2;omega)
       have MB1:Hid (Boxed W (mm+1) 113 (.map (some mm))):=Lib.hid (boxed_chg OA.out.m i1 fun h=> by have h1:mm+1=mm:=h;omega)
       have cm:=MB1.out.cell
       have HC:Hid (∀i,i<3→W.cell? ⟨Bx,0+i,none⟩=some (.int .i64 (tf t i))):=Lib.hid fun i hi=> by rw [Nat.zero_add];exact HX.out.cell i hi
       have HRN:Hid (pre++ [x] =List.range (pre++ [x]).length→x=pre.length∧pre=List.range pre.length):=Lib.hid fun h=> by
        rw [List.length_append,List.length_singleton,List.range_succ] at h
        have h2:=List.append_inj' h rfl
        simp at h2
        exact ⟨h2.2,h2.1⟩
       clear hl hr hlt i1 i2 i3 hX hBx hstop ht
       by_cases hmem:t ∈ pre.map (tmAt S.l)
       ·have hlook:(Instr.lookup 113 (.map (some mm)) (.agg (rowV 3 fun i=> .int .i64 (tf t i))) false).run Try.prog W=.ok (.bool true) W:=met_yes I3.out hmem
        have HNR:Hid (pre++ [x] ≠List.range (pre++ [x]).length):=Lib.hid fun h=> by
         obtain ⟨h1,h2⟩:=HRN.out h
         obtain ⟨y,hy,hyt⟩:=List.mem_map.1 hmem
         rw [h2,List.mem_range] at hy
         have hxl:x<S.l.length:=by rw [h1];exact HLT.out
         rw [HT.out] at hyt
         have hyl:y<S.l.length:=by have:=HLT.out;omega
         rw [tmAt_eq (List.getElem?_eq_getElem hyl),tmAt_eq (List.getElem?_eq_getElem hxl)] at hyt
         have:=(List.getElem?_inj hyl TSA.out.nd).1 (by rw [List.getElem?_eq_getElem hyl,List.getElem?_eq_getElem hxl,hyt] :S.l[y]? =S.l[x]?)
         omega
        have cB:=XB1.out.cell
        have fB:=XB1.out.frozen
        clear hmem
        gi_wp2_with (refine load_rowIn (y:=fun i=> .int .i64 (tf t i)) (fun _=> trivial) rfl rfl rfl Try.underlying97 rfl Try.sizeTm HC.out ?_)
        exact ⟨(KeepsOthers.setCell _ _ _).from _,HNR.out,rfl⟩
       ·have hlook:(Instr.lookup 113 (.map (some mm)) (.agg (rowV 3 fun i=> .int .i64 (tf t i))) false).run Try.prog W=.ok (.bool false) W:=met_no I3.out HOT.out hmem
        obtain ⟨W2,hput,hm2,hg2⟩:=met_put I3.out HOT.out hmem (by rw [List.length_map];have:=HLT.out;have:=HSL.out;omega)
        replace hput:(Instr.mapUpdate 113 (.map (some mm)) (.agg (rowV 3 fun i=> .int .i64 (tf t i))) (.bool true)).run Try.prog W=.ok () W2:=hput
        have C2:Hid (Chg (fun b=> b=mm) W W2):=Lib.hid (Chg.of_grown hg2 fun b e=> (Option.some.inj e).symm)
        have KF2:Hid (KeepsFrom wA.heap.size W W2):=Lib.hid (KeepsFrom.of_grownBy hg2 fun j e=> by have:=OA.out.mp.lt;have:=Option.some.inj e;omega)
        have SB2:Hid (Boxed W2 bs 90 (.pointer (some ⟨p,0,none⟩))):=Lib.hid (boxed_chg SB1.out C2.out fun h=> by have h1:bs=mm:=h;have:=HBM.out.1;omega)
        have XB2:Hid (Boxed W2 B 4 (.bool false)):=Lib.hid (boxed_chg XB1.out C2.out fun h=> by have h1:B=mm:=h;have:=HBM.out.2;omega)
        have HX2:Hid (Arr .i64 W2 Bx 3 (tf t)):=Lib.hid (HX.out.chg C2.out fun h=> by have h1:Bx=mm:=h;have:=HBX.out;have:=OA.out.mp.lt;omega)
        have HXB:=Lib.hid HX2.out.lt
        have S2:Hid (StA N W2 p F S):=Lib.hid (OA.out.st.keep' (I1.out.trans C2.out fun _ _ h=> h) fun b hb h=> OA.out.n3 (by have h1:b=mm:=h;rw [←h1];exact hb))
        have HFIN:Hid (∀{w8:World},Below W2.heap.size W2 w8→KeepsFrom wA.heap.size W w8∧KeepF (TG p mb mt vl vb S.tx.length tv q2) W w8∧MetI S.l wA mm (pre++ [x]) w8):=Lib.hid (by
         rename_i w8
         intro hB
         have h1:Chg (fun b=> b=mm) W w8:=C2.out.trans (Chg.of_below hB _) fun _ _ h=> h
         refine ⟨KF2.out.trans ((KeepsOthers.of_belowT hB).from _),⟨h1.size,fun b hb=> h1.block b ?_ (HGL.out b hb).2⟩,I1.out.trans h1 fun _ _ h=> h,?_,?_⟩
         ·have:=(HGL.out b hb).1
          have:=I1.out.size
          omega
         ·rw [List.map_append]
          exact nodup_snoc I2.out (by rw [←HT.out];exact hmem)
         ·rw [List.map_append]
          show Met w8 mm (pre.map (tmAt S.l)++ [tmAt S.l x])
          rw [←HT.out]
          exact hm2.heap (hB.block mm hm2.lt))
        have HNRX:Hid (¬ x<S.l.length→pre++ [x] ≠List.range (pre++ [x]).length):=Lib.hid fun hx h=> by
         have:=(HRN.out h).1
         have:=HLT.out
         omega
        clear hm2 hg2
        gi_wp2_with (refine load_rowIn (y:=fun i=> .int .i64 (tf t i)) (fun _=> trivial) rfl rfl rfl Try.underlying97 rfl Try.sizeTm HC.out ?_)
        clear hput hlook cm hmem
        obtain ⟨SX,hSX⟩:∃z,z=sizeA S (x:Int):=⟨_,rfl⟩
        have HSX:Hid (∀{w2:World},Below W2.heap.size W2 w2→Calls Try.prog 60 #[.pointer (some ⟨p,0,none⟩),.int .i64 (x:Int)] w2 fun e w'=> e=.returned (.int .i64 SX)∧Below w2.heap.size w2 w'):=Lib.hid fun hB=> by
         rw [hSX]
         exact sSize_any (S2.out.below' hB) (x:Int) (by have:=HSL.out;omega)
        obtain ⟨k1,A1,B1⟩:=t
        have K0:Hid (W2.cell? ⟨Bx,0,none⟩=some (.int .i64 k1)):=Lib.hid (HX2.out.cell 0 (by decide))
        have K1:Hid (W2.cell? ⟨Bx,1,none⟩=some (.int .i64 A1)):=Lib.hid (HX2.out.cell 1 (by decide))
        have K2:Hid (W2.cell? ⟨Bx,2,none⟩=some (.int .i64 B1)):=Lib.hid (HX2.out.cell 2 (by decide))
        by_cases hxl:x<S.l.length
        ·have hgt:S.l[x]? =some (k1,A1,B1):=by rw [HT.out];rw [tmAt_eq (List.getElem?_eq_getElem hxl)];exact List.getElem?_eq_getElem hxl
         have key:(k1=1∨k1=9)∨((k1=4∨k1=5∨k1=8)∧(∃n:Nat,A1=n∧n<x)∧∃m:Nat,B1=m∧m<x)∨((k1=2∨k1=3∨k1=6∨k1=7∨k1=10)∧∃n:Nat,A1=n∧n<x):=by
          rcases HOKS.out.ok x _ hgt with ⟨h1,_⟩ | ⟨h1,⟨a,ha,hai⟩,_⟩ | ⟨h1,⟨a,ha,hai,_⟩,b,hb,hbi⟩ | ⟨h1,⟨a,ha,hai⟩,b,hb,hbi⟩ | ⟨h1,⟨a,ha,hai⟩,b,hb,hbi,_⟩ | ⟨h1,_⟩ | ⟨h1,⟨a,ha,hai,_⟩,_⟩
          ·exact .inl (.inl h1)
          ·exact .inr (.inr ⟨by simp only at h1;omega,a,ha,hai⟩)
          ·exact .inr (.inl ⟨.inl h1,⟨a,ha,hai⟩,b,hb,hbi⟩)
          ·exact .inr (.inl ⟨.inr (.inl h1),⟨a,ha,hai⟩,b,hb,hbi⟩)
          ·exact .inr (.inl ⟨.inr (.inr h1),⟨a,ha,hai⟩,b,hb,hbi⟩)
          ·exact .inl (.inr h1)
          ·exact .inr (.inr ⟨by simp only at h1;omega,a,ha,hai⟩)
         rcases key with hk1 | ⟨hk1,⟨n1,rfl,hn1⟩,n2,rfl,hn2⟩ | ⟨hk1,n1,rfl,hn1⟩
         ·clear hxl hgt hSX
          rcases hk1 with rfl | rfl
          ·skip
           refine region_tail_in (n:=225) (by kernel_rfl) 50 (by decide) (by kernel_rfl) (by kernel_rfl) (by kernel_rfl) (by kernel_rfl) rfl
            (fun ii vv _=> (match ii with | 0 | 31 | 35 | 40=> vv=.pointer (some ⟨Bx,0,none⟩) | 1 | 32 | 36 | 41=> vv=.int .i64 (1) | 2 | 3 | 7 | 8 | 29 | 30 | 33 | 34 | 37 | 38 | 39 | 42 | 43 | 44 | 49=> vv=.bool false | 4 | 5 | 6 | 9 | 10 | 11 | 12 | 13 | 14 | 15 | 16 | 17 | 18 | 19 | 20 | 21 | 22 | 23 | 24 | 25 | 26 | 27 | 28 | 45 | 46 | 47 | 48=> vv=undef | _=> True))
            (fun _ _ _ _ h _=> h) ?_ ?_
           ·refine Each.all ?_
            refine ⟨?_,?_,?_,?_,?_,?_,?_,?_,?_,?_,?_,?_,?_,?_,?_,?_,?_,?_,?_,?_,?_,?_,?_,?_,?_,?_,?_,?_,?_,?_,?_,?_,?_,?_,?_,?_,?_,?_,?_,?_,?_,?_,?_,?_,?_,?_,?_,?_,?_,?_,(fun h=> absurd h (by decide)),trivial⟩
            ·intro _ a w2 hB hF hd
             rw [if_pos (wanted_none rfl)]
             refine flow_val (fun h=> by cases h) (run_field_at (m:=0) (k:=0) rfl (hF.same 26 rfl) (by kernel_rfl)) ?_
             exact rfl
            ·intro _ a w2 hB hF hd
             rw [if_pos (wanted_none rfl)]
             exact flow_val (fun h=> by cases h) (run_load_cell rfl (hd 0 _ rfl (waits_spec rfl)) Try.underlying3 ((hB.cell (p:=⟨Bx,0,none⟩) HXB.out).trans K0.out)) rfl
            ·intro _ a w2 hB hF hd
             rw [if_pos (wanted_none rfl)]
             exact flow_val (fun h=> by cases h) (Go.Bas.run_neq_int rfl (hd 1 _ rfl (waits_spec rfl)) rfl) (congrArg Value.bool (rfl))
            ·intro _ a w2 hB hF hd
             rw [if_pos (wanted_none rfl)]
             exact flow_move _ (.inl rfl) (by simp) (hd 2 _ rfl (waits_spec rfl))
            ·intro _ a w2 hB hF hd
             rw [if_neg (by rw [wanted_some rfl rfl (hd 3 _ rfl (waits_spec rfl))];decide)]
             exact rfl
            ·intro _ a w2 hB hF hd
             rw [if_neg (by rw [wanted_some rfl rfl (hd 3 _ rfl (waits_spec rfl))];decide)]
             exact rfl
            ·intro _ a w2 hB hF hd
             rw [if_neg (by rw [wanted_some rfl rfl (hd 3 _ rfl (waits_spec rfl))];decide)]
             exact rfl
            ·intro _ a w2 hB hF hd
             rw [if_pos (wanted_none rfl)]
             exact flow_val (fun h=> by cases h) (run_pick rfl (hd 3 _ rfl (waits_spec rfl))) (rfl)
            ·intro _ a w2 hB hF hd
             rw [if_pos (wanted_none rfl)]
             exact flow_move _ (.inl rfl) (by simp) (hd 7 _ rfl (waits_spec rfl))
            ·intro _ a w2 hB hF hd
             rw [if_neg (by rw [wanted_some rfl rfl (hd 8 _ rfl (waits_spec rfl))];decide)]
             exact rfl
            ·intro _ a w2 hB hF hd
             rw [if_neg (by rw [wanted_some rfl rfl (hd 8 _ rfl (waits_spec rfl))];decide)]
             exact rfl
            ·intro _ a w2 hB hF hd
             rw [if_neg (by rw [wanted_some rfl rfl (hd 8 _ rfl (waits_spec rfl))];decide)]
             exact rfl
            ·intro _ a w2 hB hF hd
             rw [if_neg (by rw [wanted_some rfl rfl (hd 8 _ rfl (waits_spec rfl))];decide)]
             exact rfl
            ·intro _ a w2 hB hF hd
             rw [if_neg (by rw [wanted_some rfl rfl (hd 8 _ rfl (waits_spec rfl))];decide)]
             exact rfl
            ·intro _ a w2 hB hF hd
             rw [if_neg (by rw [wanted_undef rfl rfl (hd 13 _ rfl (waits_spec rfl))];decide)]
             exact rfl
            ·intro _ a w2 hB hF hd
             rw [if_neg (by rw [wanted_undef rfl rfl (hd 13 _ rfl (waits_spec rfl))];decide)]
             exact rfl
            ·intro _ a w2 hB hF hd
             rw [if_neg (by rw [wanted_undef rfl rfl (hd 13 _ rfl (waits_spec rfl))];decide)]
             exact rfl
            ·intro _ a w2 hB hF hd
             rw [if_neg (by rw [wanted_undef rfl rfl (hd 13 _ rfl (waits_spec rfl))];decide)]
             exact rfl
            ·intro _ a w2 hB hF hd
             rw [if_neg (by rw [wanted_undef rfl rfl (hd 13 _ rfl (waits_spec rfl))];decide)]
             exact rfl
            ·intro _ a w2 hB hF hd
             rw [if_neg (by rw [wanted_undef rfl rfl (hd 18 _ rfl (waits_spec rfl))];decide)]
             exact rfl
            ·intro _ a w2 hB hF hd
             rw [if_neg (by rw [wanted_undef rfl rfl (hd 18 _ rfl (waits_spec rfl))];decide)]
             exact rfl
            ·intro _ a w2 hB hF hd
             rw [if_neg (by rw [wanted_undef rfl rfl (hd 18 _ rfl (waits_spec rfl))];decide)]
             exact rfl
            ·intro _ a w2 hB hF hd
             rw [if_neg (by rw [wanted_undef rfl rfl (hd 18 _ rfl (waits_spec rfl))];decide)]
             exact rfl
            ·intro _ a w2 hB hF hd
             rw [if_neg (by rw [wanted_undef rfl rfl (hd 18 _ rfl (waits_spec rfl))];decide)]
             exact rfl
            ·intro _ a w2 hB hF hd
             rw [if_neg (by rw [wanted_undef rfl rfl (hd 18 _ rfl (waits_spec rfl))];decide)]
             exact rfl
            ·intro _ a w2 hB hF hd
             rw [if_neg (by rw [wanted_undef rfl rfl (hd 18 _ rfl (waits_spec rfl))];decide)]
             exact rfl
            ·intro _ a w2 hB hF hd
             rw [if_neg (by rw [wanted_undef rfl rfl (hd 18 _ rfl (waits_spec rfl))];decide)]
             exact rfl
            ·intro _ a w2 hB hF hd
             rw [if_neg (by rw [wanted_undef rfl rfl (hd 13 _ rfl (waits_spec rfl))];decide)]
             exact rfl
            ·intro _ a w2 hB hF hd
             rw [if_neg (by rw [wanted_some rfl rfl (hd 8 _ rfl (waits_spec rfl))];decide)]
             exact rfl
            ·intro _ a w2 hB hF hd
             rw [if_pos (wanted_none rfl)]
             exact flow_val (fun h=> by cases h) (run_pick rfl (hd 8 _ rfl (waits_spec rfl))) (rfl)
            ·intro _ a w2 hB hF hd
             rw [if_pos (wanted_none rfl)]
             exact flow_move _ (.inl rfl) (by simp) (hd 29 _ rfl (waits_spec rfl))
            ·intro _ a w2 hB hF hd
             refine flow_wanted (wanted_yes rfl rfl (hd 30 _ rfl (waits_spec rfl)) rfl) ?_
             refine flow_val (fun h=> by cases h) (run_field_at (m:=0) (k:=0) rfl (hF.same 26 rfl) (by kernel_rfl)) ?_
             exact rfl
            ·intro _ a w2 hB hF hd
             refine flow_wanted (wanted_yes rfl rfl (hd 30 _ rfl (waits_spec rfl)) rfl) ?_
             exact flow_val (fun h=> by cases h) (run_load_cell rfl (hd 31 _ rfl (waits_spec rfl)) Try.underlying3 ((hB.cell (p:=⟨Bx,0,none⟩) HXB.out).trans K0.out)) rfl
            ·intro _ a w2 hB hF hd
             refine flow_wanted (wanted_yes rfl rfl (hd 30 _ rfl (waits_spec rfl)) rfl) ?_
             refine flow_val (fun h=> by cases h) (Go.Bas.run_eql_int rfl (hd 32 _ rfl (waits_spec rfl)) rfl) ?_
             exact rfl
            ·intro _ a w2 hB hF hd
             refine flow_wanted (wanted_yes rfl rfl (hd 30 _ rfl (waits_spec rfl)) rfl) ?_
             exact flow_move _ (.inl rfl) (by simp) (hd 33 _ rfl (waits_spec rfl))
            ·intro _ a w2 hB hF hd
             refine flow_wanted (wanted_yes rfl rfl (hd 34 _ rfl (waits_spec rfl)) rfl) ?_
             refine flow_val (fun h=> by cases h) (run_field_at (m:=0) (k:=0) rfl (hF.same 26 rfl) (by kernel_rfl)) ?_
             exact rfl
            ·intro _ a w2 hB hF hd
             refine flow_wanted (wanted_yes rfl rfl (hd 34 _ rfl (waits_spec rfl)) rfl) ?_
             exact flow_val (fun h=> by cases h) (run_load_cell rfl (hd 35 _ rfl (waits_spec rfl)) Try.underlying3 ((hB.cell (p:=⟨Bx,0,none⟩) HXB.out).trans K0.out)) rfl
            ·intro _ a w2 hB hF hd
             refine flow_wanted (wanted_yes rfl rfl (hd 34 _ rfl (waits_spec rfl)) rfl) ?_
             refine flow_val (fun h=> by cases h) (Go.Bas.run_eql_int rfl (hd 36 _ rfl (waits_spec rfl)) rfl) ?_
             exact rfl
            ·intro _ a w2 hB hF hd
             refine flow_wanted (wanted_yes rfl rfl (hd 30 _ rfl (waits_spec rfl)) rfl) ?_
             exact flow_val (fun h=> by cases h) (run_pick rfl (hd 34 _ rfl (waits_spec rfl))) ((hd 37 _ rfl (waits_spec rfl)))
            ·intro _ a w2 hB hF hd
             refine flow_wanted (wanted_yes rfl rfl (hd 30 _ rfl (waits_spec rfl)) rfl) ?_
             exact flow_move _ (.inl rfl) (by simp) (hd 38 _ rfl (waits_spec rfl))
            ·intro _ a w2 hB hF hd
             refine flow_wanted (wanted_yes rfl rfl (hd 39 _ rfl (waits_spec rfl)) rfl) ?_
             refine flow_val (fun h=> by cases h) (run_field_at (m:=0) (k:=0) rfl (hF.same 26 rfl) (by kernel_rfl)) ?_
             exact rfl
            ·intro _ a w2 hB hF hd
             refine flow_wanted (wanted_yes rfl rfl (hd 39 _ rfl (waits_spec rfl)) rfl) ?_
             exact flow_val (fun h=> by cases h) (run_load_cell rfl (hd 40 _ rfl (waits_spec rfl)) Try.underlying3 ((hB.cell (p:=⟨Bx,0,none⟩) HXB.out).trans K0.out)) rfl
            ·intro _ a w2 hB hF hd
             refine flow_wanted (wanted_yes rfl rfl (hd 39 _ rfl (waits_spec rfl)) rfl) ?_
             refine flow_val (fun h=> by cases h) (Go.Bas.run_eql_int rfl (hd 41 _ rfl (waits_spec rfl)) rfl) ?_
             exact rfl
            ·intro _ a w2 hB hF hd
             refine flow_wanted (wanted_yes rfl rfl (hd 30 _ rfl (waits_spec rfl)) rfl) ?_
             exact flow_val (fun h=> by cases h) (run_pick rfl (hd 39 _ rfl (waits_spec rfl))) ((hd 42 _ rfl (waits_spec rfl)))
            ·intro _ a w2 hB hF hd
             refine flow_wanted (wanted_yes rfl rfl (hd 30 _ rfl (waits_spec rfl)) rfl) ?_
             exact flow_move _ (.inl rfl) (by simp) (hd 43 _ rfl (waits_spec rfl))
            ·intro _ a w2 hB hF hd
             rw [if_neg (by rw [wanted_some rfl rfl (hd 44 _ rfl (waits_spec rfl))];decide)]
             exact rfl
            ·intro _ a w2 hB hF hd
             rw [if_neg (by rw [wanted_some rfl rfl (hd 44 _ rfl (waits_spec rfl))];decide)]
             exact rfl
            ·intro _ a w2 hB hF hd
             rw [if_neg (by rw [wanted_some rfl rfl (hd 44 _ rfl (waits_spec rfl))];decide)]
             exact rfl
            ·intro _ a w2 hB hF hd
             rw [if_neg (by rw [wanted_some rfl rfl (hd 44 _ rfl (waits_spec rfl))];decide)]
             exact rfl
            ·intro _ a w2 hB hF hd
             refine flow_wanted (wanted_yes rfl rfl (hd 30 _ rfl (waits_spec rfl)) rfl) ?_
             exact flow_val (fun h=> by cases h) (run_pick rfl (hd 44 _ rfl (waits_spec rfl))) (rfl)
           ·intro a w8 hB hF hS
            have ha:=puts_each rfl rfl hF [_,_,_,_,_,_,_,_,_,_,_,_,_,_,_,_,_,_,_,_,_,_,_,_,_,_,_,_,_,_,_,_,_,_,_,_,_,_,_,_,_,_,_,_,_,_,_,_,_,_] rfl ⟨hS 0 _ rfl (by decide),hS 1 _ rfl (by decide),hS 2 _ rfl (by decide),hS 3 _ rfl (by decide),hS 4 _ rfl (by decide),hS 5 _ rfl (by decide),hS 6 _ rfl (by decide),hS 7 _ rfl (by decide),hS 8 _ rfl (by decide),hS 9 _ rfl (by decide),hS 10 _ rfl (by decide),hS 11 _ rfl (by decide),hS 12 _ rfl (by decide),hS 13 _ rfl (by decide),hS 14 _ rfl (by decide),hS 15 _ rfl (by decide),hS 16 _ rfl (by decide),hS 17 _ rfl (by decide),hS 18 _ rfl (by decide),hS 19 _ rfl (by decide),hS 20 _ rfl (by decide),hS 21 _ rfl (by decide),hS 22 _ rfl (by decide),hS 23 _ rfl (by decide),hS 24 _ rfl (by decide),hS 25 _ rfl (by decide),hS 26 _ rfl (by decide),hS 27 _ rfl (by decide),hS 28 _ rfl (by decide),hS 29 _ rfl (by decide),hS 30 _ rfl (by decide),hS 31 _ rfl (by decide),hS 32 _ rfl (by decide),hS 33 _ rfl (by decide),hS 34 _ rfl (by decide),hS 35 _ rfl (by decide),hS 36 _ rfl (by decide),hS 37 _ rfl (by decide),hS 38 _ rfl (by decide),hS 39 _ rfl (by decide),hS 40 _ rfl (by decide),hS 41 _ rfl (by decide),hS 42 _ rfl (by decide),hS 43 _ rfl (by decide),hS 44 _ rfl (by decide),hS 45 _ rfl (by decide),hS 46 _ rfl (by decide),hS 47 _ rfl (by decide),hS 48 _ rfl (by decide),hS 49 _ rfl (by decide),trivial⟩
            simp only [puts,List.take_succ_cons,List.take_zero,Act.put,List.setIfInBounds_toArray,List.set_cons_succ,List.set_cons_zero] at ha
            subst ha
            change tl _ _ _ (_:: []) _ _
            clear hS hF
            refine tl_val (v:=.bool false) rfl (run_pick_f rfl rfl rfl) (tl_nil ?_)
            have HB8:=Lib.hid hB
            clear hB
            simp only [Act.put,List.setIfInBounds_toArray,List.set_cons_succ,List.set_cons_zero]
            gi_wp2_with (fail)
            exact HFIN.out HB8.out
          ·skip
           refine region_tail_in (n:=225) (by kernel_rfl) 50 (by decide) (by kernel_rfl) (by kernel_rfl) (by kernel_rfl) (by kernel_rfl) rfl
            (fun ii vv _=> (match ii with | 0 | 4 | 31 | 35 | 40=> vv=.pointer (some ⟨Bx,0,none⟩) | 1 | 5 | 32 | 36 | 41=> vv=.int .i64 (9) | 2 | 3=> vv=.bool true | 6 | 7 | 8 | 29 | 30 | 33 | 34 | 37 | 38 | 39 | 42 | 43 | 44 | 49=> vv=.bool false | 9 | 10 | 11 | 12 | 13 | 14 | 15 | 16 | 17 | 18 | 19 | 20 | 21 | 22 | 23 | 24 | 25 | 26 | 27 | 28 | 45 | 46 | 47 | 48=> vv=undef | _=> True))
            (fun _ _ _ _ h _=> h) ?_ ?_
           ·refine Each.all ?_
            refine ⟨?_,?_,?_,?_,?_,?_,?_,?_,?_,?_,?_,?_,?_,?_,?_,?_,?_,?_,?_,?_,?_,?_,?_,?_,?_,?_,?_,?_,?_,?_,?_,?_,?_,?_,?_,?_,?_,?_,?_,?_,?_,?_,?_,?_,?_,?_,?_,?_,?_,?_,(fun h=> absurd h (by decide)),trivial⟩
            ·intro _ a w2 hB hF hd
             rw [if_pos (wanted_none rfl)]
             refine flow_val (fun h=> by cases h) (run_field_at (m:=0) (k:=0) rfl (hF.same 26 rfl) (by kernel_rfl)) ?_
             exact rfl
            ·intro _ a w2 hB hF hd
             rw [if_pos (wanted_none rfl)]
             exact flow_val (fun h=> by cases h) (run_load_cell rfl (hd 0 _ rfl (waits_spec rfl)) Try.underlying3 ((hB.cell (p:=⟨Bx,0,none⟩) HXB.out).trans K0.out)) rfl
            ·intro _ a w2 hB hF hd
             rw [if_pos (wanted_none rfl)]
             exact flow_val (fun h=> by cases h) (Go.Bas.run_neq_int rfl (hd 1 _ rfl (waits_spec rfl)) rfl) (congrArg Value.bool (rfl))
            ·intro _ a w2 hB hF hd
             rw [if_pos (wanted_none rfl)]
             exact flow_move _ (.inl rfl) (by simp) (hd 2 _ rfl (waits_spec rfl))
            ·intro _ a w2 hB hF hd
             refine flow_wanted (wanted_yes rfl rfl (hd 3 _ rfl (waits_spec rfl)) rfl) ?_
             refine flow_val (fun h=> by cases h) (run_field_at (m:=0) (k:=0) rfl (hF.same 26 rfl) (by kernel_rfl)) ?_
             exact rfl
            ·intro _ a w2 hB hF hd
             refine flow_wanted (wanted_yes rfl rfl (hd 3 _ rfl (waits_spec rfl)) rfl) ?_
             exact flow_val (fun h=> by cases h) (run_load_cell rfl (hd 4 _ rfl (waits_spec rfl)) Try.underlying3 ((hB.cell (p:=⟨Bx,0,none⟩) HXB.out).trans K0.out)) rfl
            ·intro _ a w2 hB hF hd
             refine flow_wanted (wanted_yes rfl rfl (hd 3 _ rfl (waits_spec rfl)) rfl) ?_
             exact flow_val (fun h=> by cases h) (Go.Bas.run_neq_int rfl (hd 5 _ rfl (waits_spec rfl)) rfl) (congrArg Value.bool (rfl))
            ·intro _ a w2 hB hF hd
             rw [if_pos (wanted_none rfl)]
             exact flow_val (fun h=> by cases h) (run_pick rfl (hd 3 _ rfl (waits_spec rfl))) ((hd 6 _ rfl (waits_spec rfl)))
            ·intro _ a w2 hB hF hd
             rw [if_pos (wanted_none rfl)]
             exact flow_move _ (.inl rfl) (by simp) (hd 7 _ rfl (waits_spec rfl))
            ·intro _ a w2 hB hF hd
             rw [if_neg (by rw [wanted_some rfl rfl (hd 8 _ rfl (waits_spec rfl))];decide)]
             exact rfl
            ·intro _ a w2 hB hF hd
             rw [if_neg (by rw [wanted_some rfl rfl (hd 8 _ rfl (waits_spec rfl))];decide)]
             exact rfl
            ·intro _ a w2 hB hF hd
             rw [if_neg (by rw [wanted_some rfl rfl (hd 8 _ rfl (waits_spec rfl))];decide)]
             exact rfl
            ·intro _ a w2 hB hF hd
             rw [if_neg (by rw [wanted_some rfl rfl (hd 8 _ rfl (waits_spec rfl))];decide)]
             exact rfl
            ·intro _ a w2 hB hF hd
             rw [if_neg (by rw [wanted_some rfl rfl (hd 8 _ rfl (waits_spec rfl))];decide)]
             exact rfl
            ·intro _ a w2 hB hF hd
             rw [if_neg (by rw [wanted_undef rfl rfl (hd 13 _ rfl (waits_spec rfl))];decide)]
             exact rfl
            ·intro _ a w2 hB hF hd
             rw [if_neg (by rw [wanted_undef rfl rfl (hd 13 _ rfl (waits_spec rfl))];decide)]
             exact rfl
            ·intro _ a w2 hB hF hd
             rw [if_neg (by rw [wanted_undef rfl rfl (hd 13 _ rfl (waits_spec rfl))];decide)]
             exact rfl
            ·intro _ a w2 hB hF hd
             rw [if_neg (by rw [wanted_undef rfl rfl (hd 13 _ rfl (waits_spec rfl))];decide)]
             exact rfl
            ·intro _ a w2 hB hF hd
             rw [if_neg (by rw [wanted_undef rfl rfl (hd 13 _ rfl (waits_spec rfl))];decide)]
             exact rfl
            ·intro _ a w2 hB hF hd
             rw [if_neg (by rw [wanted_undef rfl rfl (hd 18 _ rfl (waits_spec rfl))];decide)]
             exact rfl
            ·intro _ a w2 hB hF hd
             rw [if_neg (by rw [wanted_undef rfl rfl (hd 18 _ rfl (waits_spec rfl))];decide)]
             exact rfl
            ·intro _ a w2 hB hF hd
             rw [if_neg (by rw [wanted_undef rfl rfl (hd 18 _ rfl (waits_spec rfl))];decide)]
             exact rfl
            ·intro _ a w2 hB hF hd
             rw [if_neg (by rw [wanted_undef rfl rfl (hd 18 _ rfl (waits_spec rfl))];decide)]
             exact rfl
            ·intro _ a w2 hB hF hd
             rw [if_neg (by rw [wanted_undef rfl rfl (hd 18 _ rfl (waits_spec rfl))];decide)]
             exact rfl
            ·intro _ a w2 hB hF hd
             rw [if_neg (by rw [wanted_undef rfl rfl (hd 18 _ rfl (waits_spec rfl))];decide)]
             exact rfl
            ·intro _ a w2 hB hF hd
             rw [if_neg (by rw [wanted_undef rfl rfl (hd 18 _ rfl (waits_spec rfl))];decide)]
             exact rfl
            ·intro _ a w2 hB hF hd
             rw [if_neg (by rw [wanted_undef rfl rfl (hd 18 _ rfl (waits_spec rfl))];decide)]
             exact rfl
            ·intro _ a w2 hB hF hd
             rw [if_neg (by rw [wanted_undef rfl rfl (hd 13 _ rfl (waits_spec rfl))];decide)]
             exact rfl
            ·intro _ a w2 hB hF hd
             rw [if_neg (by rw [wanted_some rfl rfl (hd 8 _ rfl (waits_spec rfl))];decide)]
             exact rfl
            ·intro _ a w2 hB hF hd
             rw [if_pos (wanted_none rfl)]
             exact flow_val (fun h=> by cases h) (run_pick rfl (hd 8 _ rfl (waits_spec rfl))) (rfl)
            ·intro _ a w2 hB hF hd
             rw [if_pos (wanted_none rfl)]
             exact flow_move _ (.inl rfl) (by simp) (hd 29 _ rfl (waits_spec rfl))
            ·intro _ a w2 hB hF hd
             refine flow_wanted (wanted_yes rfl rfl (hd 30 _ rfl (waits_spec rfl)) rfl) ?_
             refine flow_val (fun h=> by cases h) (run_field_at (m:=0) (k:=0) rfl (hF.same 26 rfl) (by kernel_rfl)) ?_
             exact rfl
            ·intro _ a w2 hB hF hd
             refine flow_wanted (wanted_yes rfl rfl (hd 30 _ rfl (waits_spec rfl)) rfl) ?_
             exact flow_val (fun h=> by cases h) (run_load_cell rfl (hd 31 _ rfl (waits_spec rfl)) Try.underlying3 ((hB.cell (p:=⟨Bx,0,none⟩) HXB.out).trans K0.out)) rfl
            ·intro _ a w2 hB hF hd
             refine flow_wanted (wanted_yes rfl rfl (hd 30 _ rfl (waits_spec rfl)) rfl) ?_
             refine flow_val (fun h=> by cases h) (Go.Bas.run_eql_int rfl (hd 32 _ rfl (waits_spec rfl)) rfl) ?_
             exact rfl
            ·intro _ a w2 hB hF hd
             refine flow_wanted (wanted_yes rfl rfl (hd 30 _ rfl (waits_spec rfl)) rfl) ?_
             exact flow_move _ (.inl rfl) (by simp) (hd 33 _ rfl (waits_spec rfl))
            ·intro _ a w2 hB hF hd
             refine flow_wanted (wanted_yes rfl rfl (hd 34 _ rfl (waits_spec rfl)) rfl) ?_
             refine flow_val (fun h=> by cases h) (run_field_at (m:=0) (k:=0) rfl (hF.same 26 rfl) (by kernel_rfl)) ?_
             exact rfl
            ·intro _ a w2 hB hF hd
             refine flow_wanted (wanted_yes rfl rfl (hd 34 _ rfl (waits_spec rfl)) rfl) ?_
             exact flow_val (fun h=> by cases h) (run_load_cell rfl (hd 35 _ rfl (waits_spec rfl)) Try.underlying3 ((hB.cell (p:=⟨Bx,0,none⟩) HXB.out).trans K0.out)) rfl
            ·intro _ a w2 hB hF hd
             refine flow_wanted (wanted_yes rfl rfl (hd 34 _ rfl (waits_spec rfl)) rfl) ?_
             refine flow_val (fun h=> by cases h) (Go.Bas.run_eql_int rfl (hd 36 _ rfl (waits_spec rfl)) rfl) ?_
             exact rfl
            ·intro _ a w2 hB hF hd
             refine flow_wanted (wanted_yes rfl rfl (hd 30 _ rfl (waits_spec rfl)) rfl) ?_
             exact flow_val (fun h=> by cases h) (run_pick rfl (hd 34 _ rfl (waits_spec rfl))) ((hd 37 _ rfl (waits_spec rfl)))
            ·intro _ a w2 hB hF hd
             refine flow_wanted (wanted_yes rfl rfl (hd 30 _ rfl (waits_spec rfl)) rfl) ?_
             exact flow_move _ (.inl rfl) (by simp) (hd 38 _ rfl (waits_spec rfl))
            ·intro _ a w2 hB hF hd
             refine flow_wanted (wanted_yes rfl rfl (hd 39 _ rfl (waits_spec rfl)) rfl) ?_
             refine flow_val (fun h=> by cases h) (run_field_at (m:=0) (k:=0) rfl (hF.same 26 rfl) (by kernel_rfl)) ?_
             exact rfl
            ·intro _ a w2 hB hF hd
             refine flow_wanted (wanted_yes rfl rfl (hd 39 _ rfl (waits_spec rfl)) rfl) ?_
             exact flow_val (fun h=> by cases h) (run_load_cell rfl (hd 40 _ rfl (waits_spec rfl)) Try.underlying3 ((hB.cell (p:=⟨Bx,0,none⟩) HXB.out).trans K0.out)) rfl
            ·intro _ a w2 hB hF hd
             refine flow_wanted (wanted_yes rfl rfl (hd 39 _ rfl (waits_spec rfl)) rfl) ?_
             refine flow_val (fun h=> by cases h) (Go.Bas.run_eql_int rfl (hd 41 _ rfl (waits_spec rfl)) rfl) ?_
             exact rfl
            ·intro _ a w2 hB hF hd
             refine flow_wanted (wanted_yes rfl rfl (hd 30 _ rfl (waits_spec rfl)) rfl) ?_
             exact flow_val (fun h=> by cases h) (run_pick rfl (hd 39 _ rfl (waits_spec rfl))) ((hd 42 _ rfl (waits_spec rfl)))
            ·intro _ a w2 hB hF hd
             refine flow_wanted (wanted_yes rfl rfl (hd 30 _ rfl (waits_spec rfl)) rfl) ?_
             exact flow_move _ (.inl rfl) (by simp) (hd 43 _ rfl (waits_spec rfl))
            ·intro _ a w2 hB hF hd
             rw [if_neg (by rw [wanted_some rfl rfl (hd 44 _ rfl (waits_spec rfl))];decide)]
             exact rfl
            ·intro _ a w2 hB hF hd
             rw [if_neg (by rw [wanted_some rfl rfl (hd 44 _ rfl (waits_spec rfl))];decide)]
             exact rfl
            ·intro _ a w2 hB hF hd
             rw [if_neg (by rw [wanted_some rfl rfl (hd 44 _ rfl (waits_spec rfl))];decide)]
             exact rfl
            ·intro _ a w2 hB hF hd
             rw [if_neg (by rw [wanted_some rfl rfl (hd 44 _ rfl (waits_spec rfl))];decide)]
             exact rfl
            ·intro _ a w2 hB hF hd
             refine flow_wanted (wanted_yes rfl rfl (hd 30 _ rfl (waits_spec rfl)) rfl) ?_
             exact flow_val (fun h=> by cases h) (run_pick rfl (hd 44 _ rfl (waits_spec rfl))) (rfl)
           ·intro a w8 hB hF hS
            have ha:=puts_each rfl rfl hF [_,_,_,_,_,_,_,_,_,_,_,_,_,_,_,_,_,_,_,_,_,_,_,_,_,_,_,_,_,_,_,_,_,_,_,_,_,_,_,_,_,_,_,_,_,_,_,_,_,_] rfl ⟨hS 0 _ rfl (by decide),hS 1 _ rfl (by decide),hS 2 _ rfl (by decide),hS 3 _ rfl (by decide),hS 4 _ rfl (by decide),hS 5 _ rfl (by decide),hS 6 _ rfl (by decide),hS 7 _ rfl (by decide),hS 8 _ rfl (by decide),hS 9 _ rfl (by decide),hS 10 _ rfl (by decide),hS 11 _ rfl (by decide),hS 12 _ rfl (by decide),hS 13 _ rfl (by decide),hS 14 _ rfl (by decide),hS 15 _ rfl (by decide),hS 16 _ rfl (by decide),hS 17 _ rfl (by decide),hS 18 _ rfl (by decide),hS 19 _ rfl (by decide),hS 20 _ rfl (by decide),hS 21 _ rfl (by decide),hS 22 _ rfl (by decide),hS 23 _ rfl (by decide),hS 24 _ rfl (by decide),hS 25 _ rfl (by decide),hS 26 _ rfl (by decide),hS 27 _ rfl (by decide),hS 28 _ rfl (by decide),hS 29 _ rfl (by decide),hS 30 _ rfl (by decide),hS 31 _ rfl (by decide),hS 32 _ rfl (by decide),hS 33 _ rfl (by decide),hS 34 _ rfl (by decide),hS 35 _ rfl (by decide),hS 36 _ rfl (by decide),hS 37 _ rfl (by decide),hS 38 _ rfl (by decide),hS 39 _ rfl (by decide),hS 40 _ rfl (by decide),hS 41 _ rfl (by decide),hS 42 _ rfl (by decide),hS 43 _ rfl (by decide),hS 44 _ rfl (by decide),hS 45 _ rfl (by decide),hS 46 _ rfl (by decide),hS 47 _ rfl (by decide),hS 48 _ rfl (by decide),hS 49 _ rfl (by decide),trivial⟩
            simp only [puts,List.take_succ_cons,List.take_zero,Act.put,List.setIfInBounds_toArray,List.set_cons_succ,List.set_cons_zero] at ha
            subst ha
            change tl _ _ _ (_:: []) _ _
            clear hS hF
            refine tl_val (v:=.bool false) rfl (run_pick_f rfl rfl rfl) (tl_nil ?_)
            have HB8:=Lib.hid hB
            clear hB
            simp only [Act.put,List.setIfInBounds_toArray,List.set_cons_succ,List.set_cons_zero]
            gi_wp2_with (fail)
            exact HFIN.out HB8.out
         ·have hszx:SX=szT S.l x:=hSX.trans (sizeA_at hxl)
          obtain ⟨SA,hSA⟩:∃z,z=szT S.l n1:=⟨_,rfl⟩
          have hnl:n1<S.l.length:=by omega
          have HSA:Hid (∀{w2:World},Below W2.heap.size W2 w2→Calls Try.prog 60 #[.pointer (some ⟨p,0,none⟩),.int .i64 (n1:Int)] w2 fun e w'=> e=.returned (.int .i64 SA)∧Below w2.heap.size w2 w'):=Lib.hid fun hB=> by
           rw [hSA,←sizeA_at hnl]
           exact sSize_any (S2.out.below' hB) (n1:Int) (by have:=HSL.out;omega)
          have HGE:Hid (decide ((x:Int)≤(n1:Int))=false):=Lib.hid (decide_eq_false (by omega))
          have HGB:Hid (decide ((x:Int)≤(n2:Int))=false):=Lib.hid (decide_eq_false (by omega))
          by_cases hbig:SX<1048576
          ·have HBIG:Hid (decide (SX<1048576)=true):=Lib.hid (decide_eq_true hbig)
           have HGS:Hid (decide (SX≤SA)=false):=Lib.hid (decide_eq_false (by
            have:=szT_part HOKS.out hgt (by simp only;omega) (by simp only;omega) rfl hn1 (by omega)
            omega))
           clear hbig hszx hSA hnl hgt hxl hSX hn1 hn2
           rcases hk1 with rfl | rfl | rfl
           ·skip
            refine region_tail_in (n:=225) (by kernel_rfl) 50 (by decide) (by kernel_rfl) (by kernel_rfl) (by kernel_rfl) (by kernel_rfl) rfl
             (fun ii vv _=> (match ii with | 0 | 4 | 31=> vv=.pointer (some ⟨Bx,0,none⟩) | 1 | 5 | 32=> vv=.int .i64 (4) | 2 | 3 | 6 | 7 | 8 | 17 | 18 | 33 | 34 | 38 | 39 | 43 | 44=> vv=.bool true | 9 | 20=> vv=.pointer (some ⟨Bx,1,none⟩) | 10 | 21=> vv=.int .i64 ((n1:Int)) | 11 | 15 | 24 | 47=> vv=.int .i64 ((x:Int)) | 12 | 13 | 26 | 27 | 28 | 29 | 30 | 48 | 49=> vv=.bool false | 14 | 19 | 23=> vv=.pointer (some ⟨p,0,none⟩) | 16 | 25=> vv=.int .i64 (SX) | 22=> vv=.int .i64 (SA) | 35 | 36 | 37 | 40 | 41 | 42=> vv=undef | 45=> vv=.pointer (some ⟨Bx,2,none⟩) | 46=> vv=.int .i64 ((n2:Int)) | _=> True))
             (fun _ _ _ _ h _=> h) ?_ ?_
            ·refine Each.all ?_
             refine ⟨?_,?_,?_,?_,?_,?_,?_,?_,?_,?_,?_,?_,?_,?_,?_,?_,?_,?_,?_,?_,?_,?_,?_,?_,?_,?_,?_,?_,?_,?_,?_,?_,?_,?_,?_,?_,?_,?_,?_,?_,?_,?_,?_,?_,?_,?_,?_,?_,?_,?_,(fun h=> absurd h (by decide)),trivial⟩
             ·intro _ a w2 hB hF hd
              rw [if_pos (wanted_none rfl)]
              refine flow_val (fun h=> by cases h) (run_field_at (m:=0) (k:=0) rfl (hF.same 26 rfl) (by kernel_rfl)) ?_
              exact rfl
             ·intro _ a w2 hB hF hd
              rw [if_pos (wanted_none rfl)]
              exact flow_val (fun h=> by cases h) (run_load_cell rfl (hd 0 _ rfl (waits_spec rfl)) Try.underlying3 ((hB.cell (p:=⟨Bx,0,none⟩) HXB.out).trans K0.out)) rfl
             ·intro _ a w2 hB hF hd
              rw [if_pos (wanted_none rfl)]
              exact flow_val (fun h=> by cases h) (Go.Bas.run_neq_int rfl (hd 1 _ rfl (waits_spec rfl)) rfl) (congrArg Value.bool (rfl))
             ·intro _ a w2 hB hF hd
              rw [if_pos (wanted_none rfl)]
              exact flow_move _ (.inl rfl) (by simp) (hd 2 _ rfl (waits_spec rfl))
             ·intro _ a w2 hB hF hd
              refine flow_wanted (wanted_yes rfl rfl (hd 3 _ rfl (waits_spec rfl)) rfl) ?_
              refine flow_val (fun h=> by cases h) (run_field_at (m:=0) (k:=0) rfl (hF.same 26 rfl) (by kernel_rfl)) ?_
              exact rfl
             ·intro _ a w2 hB hF hd
              refine flow_wanted (wanted_yes rfl rfl (hd 3 _ rfl (waits_spec rfl)) rfl) ?_
              exact flow_val (fun h=> by cases h) (run_load_cell rfl (hd 4 _ rfl (waits_spec rfl)) Try.underlying3 ((hB.cell (p:=⟨Bx,0,none⟩) HXB.out).trans K0.out)) rfl
             ·intro _ a w2 hB hF hd
              refine flow_wanted (wanted_yes rfl rfl (hd 3 _ rfl (waits_spec rfl)) rfl) ?_
              exact flow_val (fun h=> by cases h) (Go.Bas.run_neq_int rfl (hd 5 _ rfl (waits_spec rfl)) rfl) (congrArg Value.bool (rfl))
             ·intro _ a w2 hB hF hd
              rw [if_pos (wanted_none rfl)]
              exact flow_val (fun h=> by cases h) (run_pick rfl (hd 3 _ rfl (waits_spec rfl))) ((hd 6 _ rfl (waits_spec rfl)))
             ·intro _ a w2 hB hF hd
              rw [if_pos (wanted_none rfl)]
              exact flow_move _ (.inl rfl) (by simp) (hd 7 _ rfl (waits_spec rfl))
             ·intro _ a w2 hB hF hd
              refine flow_wanted (wanted_yes rfl rfl (hd 8 _ rfl (waits_spec rfl)) rfl) ?_
              refine flow_val (fun h=> by cases h) (run_field_at (m:=0) (k:=1) rfl (hF.same 26 rfl) (by kernel_rfl)) ?_
              exact rfl
             ·intro _ a w2 hB hF hd
              refine flow_wanted (wanted_yes rfl rfl (hd 8 _ rfl (waits_spec rfl)) rfl) ?_
              exact flow_val (fun h=> by cases h) (run_load_cell rfl (hd 9 _ rfl (waits_spec rfl)) Try.underlying3 ((hB.cell (p:=⟨Bx,1,none⟩) HXB.out).trans K1.out)) rfl
             ·intro _ a w2 hB hF hd
              refine flow_wanted (wanted_yes rfl rfl (hd 8 _ rfl (waits_spec rfl)) rfl) ?_
              exact flow_move _ (.inl rfl) (by simp) (hF.same 25 rfl)
             ·intro _ a w2 hB hF hd
              refine flow_wanted (wanted_yes rfl rfl (hd 8 _ rfl (waits_spec rfl)) rfl) ?_
              exact flow_val (fun h=> by cases h) (Go.Bas.run_geq rfl (hd 10 _ rfl (waits_spec rfl)) (hd 11 _ rfl (waits_spec rfl))) (congrArg Value.bool (HGE.out))
             ·intro _ a w2 hB hF hd
              refine flow_wanted (wanted_yes rfl rfl (hd 8 _ rfl (waits_spec rfl)) rfl) ?_
              exact flow_move _ (.inl rfl) (by simp) (hd 12 _ rfl (waits_spec rfl))
             ·intro _ a w2 hB hF hd
              refine flow_wanted (wanted_yes rfl rfl (hd 13 _ rfl (waits_spec rfl)) rfl) ?_
              exact flow_val (fun h=> by cases h) (run_load_pt rfl (hF.same 10 rfl) Try.underlying90 ((hB.cell (p:=⟨bs,0,none⟩) SB2.out.lt).trans SB2.out.cell)) rfl
             ·intro _ a w2 hB hF hd
              refine flow_wanted (wanted_yes rfl rfl (hd 13 _ rfl (waits_spec rfl)) rfl) ?_
              exact flow_move _ (.inl rfl) (by simp) (hF.same 25 rfl)
             ·intro _ a w2 hB hF hd
              refine flow_wanted (wanted_yes rfl rfl (hd 13 _ rfl (waits_spec rfl)) rfl) ?_
              refine flow_call _ _ _ rfl Try.call60 _ (args2 (hd 14 _ rfl (waits_spec rfl)) (hd 15 _ rfl (waits_spec rfl))) (by simp) ((HSX.out hB).mono ?_)
              rintro e w3 ⟨rfl,hb⟩;exact ⟨_,rfl,rfl,hb⟩
             ·intro _ a w2 hB hF hd
              refine flow_wanted (wanted_yes rfl rfl (hd 13 _ rfl (waits_spec rfl)) rfl) ?_
              exact flow_val (fun h=> by cases h) (Go.Bas.run_lss rfl (hd 16 _ rfl (waits_spec rfl)) rfl) (congrArg Value.bool (HBIG.out))
             ·intro _ a w2 hB hF hd
              refine flow_wanted (wanted_yes rfl rfl (hd 13 _ rfl (waits_spec rfl)) rfl) ?_
              exact flow_move _ (.inl rfl) (by simp) (hd 17 _ rfl (waits_spec rfl))
             ·intro _ a w2 hB hF hd
              refine flow_wanted (wanted_yes rfl rfl (hd 18 _ rfl (waits_spec rfl)) rfl) ?_
              exact flow_val (fun h=> by cases h) (run_load_pt rfl (hF.same 10 rfl) Try.underlying90 ((hB.cell (p:=⟨bs,0,none⟩) SB2.out.lt).trans SB2.out.cell)) rfl
             ·intro _ a w2 hB hF hd
              refine flow_wanted (wanted_yes rfl rfl (hd 18 _ rfl (waits_spec rfl)) rfl) ?_
              refine flow_val (fun h=> by cases h) (run_field_at (m:=0) (k:=1) rfl (hF.same 26 rfl) (by kernel_rfl)) ?_
              exact rfl
             ·intro _ a w2 hB hF hd
              refine flow_wanted (wanted_yes rfl rfl (hd 18 _ rfl (waits_spec rfl)) rfl) ?_
              exact flow_val (fun h=> by cases h) (run_load_cell rfl (hd 20 _ rfl (waits_spec rfl)) Try.underlying3 ((hB.cell (p:=⟨Bx,1,none⟩) HXB.out).trans K1.out)) rfl
             ·intro _ a w2 hB hF hd
              refine flow_wanted (wanted_yes rfl rfl (hd 18 _ rfl (waits_spec rfl)) rfl) ?_
              refine flow_call _ _ _ rfl Try.call60 _ (args2 (hd 19 _ rfl (waits_spec rfl)) (hd 21 _ rfl (waits_spec rfl))) (by simp) ((HSA.out hB).mono ?_)
              rintro e w3 ⟨rfl,hb⟩;exact ⟨_,rfl,rfl,hb⟩
             ·intro _ a w2 hB hF hd
              refine flow_wanted (wanted_yes rfl rfl (hd 18 _ rfl (waits_spec rfl)) rfl) ?_
              exact flow_val (fun h=> by cases h) (run_load_pt rfl (hF.same 10 rfl) Try.underlying90 ((hB.cell (p:=⟨bs,0,none⟩) SB2.out.lt).trans SB2.out.cell)) rfl
             ·intro _ a w2 hB hF hd
              refine flow_wanted (wanted_yes rfl rfl (hd 18 _ rfl (waits_spec rfl)) rfl) ?_
              exact flow_move _ (.inl rfl) (by simp) (hF.same 25 rfl)
             ·intro _ a w2 hB hF hd
              refine flow_wanted (wanted_yes rfl rfl (hd 18 _ rfl (waits_spec rfl)) rfl) ?_
              refine flow_call _ _ _ rfl Try.call60 _ (args2 (hd 23 _ rfl (waits_spec rfl)) (hd 24 _ rfl (waits_spec rfl))) (by simp) ((HSX.out hB).mono ?_)
              rintro e w3 ⟨rfl,hb⟩;exact ⟨_,rfl,rfl,hb⟩
             ·intro _ a w2 hB hF hd
              refine flow_wanted (wanted_yes rfl rfl (hd 18 _ rfl (waits_spec rfl)) rfl) ?_
              exact flow_val (fun h=> by cases h) (Go.Bas.run_geq rfl (hd 22 _ rfl (waits_spec rfl)) (hd 25 _ rfl (waits_spec rfl))) (congrArg Value.bool (HGS.out))
             ·intro _ a w2 hB hF hd
              refine flow_wanted (wanted_yes rfl rfl (hd 13 _ rfl (waits_spec rfl)) rfl) ?_
              exact flow_val (fun h=> by cases h) (run_pick rfl (hd 18 _ rfl (waits_spec rfl))) ((hd 26 _ rfl (waits_spec rfl)))
             ·intro _ a w2 hB hF hd
              refine flow_wanted (wanted_yes rfl rfl (hd 8 _ rfl (waits_spec rfl)) rfl) ?_
              exact flow_val (fun h=> by cases h) (run_pick rfl (hd 13 _ rfl (waits_spec rfl))) ((hd 27 _ rfl (waits_spec rfl)))
             ·intro _ a w2 hB hF hd
              rw [if_pos (wanted_none rfl)]
              exact flow_val (fun h=> by cases h) (run_pick rfl (hd 8 _ rfl (waits_spec rfl))) ((hd 28 _ rfl (waits_spec rfl)))
             ·intro _ a w2 hB hF hd
              rw [if_pos (wanted_none rfl)]
              exact flow_move _ (.inl rfl) (by simp) (hd 29 _ rfl (waits_spec rfl))
             ·intro _ a w2 hB hF hd
              refine flow_wanted (wanted_yes rfl rfl (hd 30 _ rfl (waits_spec rfl)) rfl) ?_
              refine flow_val (fun h=> by cases h) (run_field_at (m:=0) (k:=0) rfl (hF.same 26 rfl) (by kernel_rfl)) ?_
              exact rfl
             ·intro _ a w2 hB hF hd
              refine flow_wanted (wanted_yes rfl rfl (hd 30 _ rfl (waits_spec rfl)) rfl) ?_
              exact flow_val (fun h=> by cases h) (run_load_cell rfl (hd 31 _ rfl (waits_spec rfl)) Try.underlying3 ((hB.cell (p:=⟨Bx,0,none⟩) HXB.out).trans K0.out)) rfl
             ·intro _ a w2 hB hF hd
              refine flow_wanted (wanted_yes rfl rfl (hd 30 _ rfl (waits_spec rfl)) rfl) ?_
              refine flow_val (fun h=> by cases h) (Go.Bas.run_eql_int rfl (hd 32 _ rfl (waits_spec rfl)) rfl) ?_
              exact rfl
             ·intro _ a w2 hB hF hd
              refine flow_wanted (wanted_yes rfl rfl (hd 30 _ rfl (waits_spec rfl)) rfl) ?_
              exact flow_move _ (.inl rfl) (by simp) (hd 33 _ rfl (waits_spec rfl))
             ·intro _ a w2 hB hF hd
              rw [if_neg (by rw [wanted_some rfl rfl (hd 34 _ rfl (waits_spec rfl))];decide)]
              exact rfl
             ·intro _ a w2 hB hF hd
              rw [if_neg (by rw [wanted_some rfl rfl (hd 34 _ rfl (waits_spec rfl))];decide)]
              exact rfl
             ·intro _ a w2 hB hF hd
              rw [if_neg (by rw [wanted_some rfl rfl (hd 34 _ rfl (waits_spec rfl))];decide)]
              exact rfl
             ·intro _ a w2 hB hF hd
              refine flow_wanted (wanted_yes rfl rfl (hd 30 _ rfl (waits_spec rfl)) rfl) ?_
              exact flow_val (fun h=> by cases h) (run_pick rfl (hd 34 _ rfl (waits_spec rfl))) (rfl)
             ·intro _ a w2 hB hF hd
              refine flow_wanted (wanted_yes rfl rfl (hd 30 _ rfl (waits_spec rfl)) rfl) ?_
              exact flow_move _ (.inl rfl) (by simp) (hd 38 _ rfl (waits_spec rfl))
             ·intro _ a w2 hB hF hd
              rw [if_neg (by rw [wanted_some rfl rfl (hd 39 _ rfl (waits_spec rfl))];decide)]
              exact rfl
             ·intro _ a w2 hB hF hd
              rw [if_neg (by rw [wanted_some rfl rfl (hd 39 _ rfl (waits_spec rfl))];decide)]
              exact rfl
             ·intro _ a w2 hB hF hd
              rw [if_neg (by rw [wanted_some rfl rfl (hd 39 _ rfl (waits_spec rfl))];decide)]
              exact rfl
             ·intro _ a w2 hB hF hd
              refine flow_wanted (wanted_yes rfl rfl (hd 30 _ rfl (waits_spec rfl)) rfl) ?_
              exact flow_val (fun h=> by cases h) (run_pick rfl (hd 39 _ rfl (waits_spec rfl))) (rfl)
             ·intro _ a w2 hB hF hd
              refine flow_wanted (wanted_yes rfl rfl (hd 30 _ rfl (waits_spec rfl)) rfl) ?_
              exact flow_move _ (.inl rfl) (by simp) (hd 43 _ rfl (waits_spec rfl))
             ·intro _ a w2 hB hF hd
              refine flow_wanted (wanted_yes rfl rfl (hd 44 _ rfl (waits_spec rfl)) rfl) ?_
              refine flow_val (fun h=> by cases h) (run_field_at (m:=0) (k:=2) rfl (hF.same 26 rfl) (by kernel_rfl)) ?_
              exact rfl
             ·intro _ a w2 hB hF hd
              refine flow_wanted (wanted_yes rfl rfl (hd 44 _ rfl (waits_spec rfl)) rfl) ?_
              exact flow_val (fun h=> by cases h) (run_load_cell rfl (hd 45 _ rfl (waits_spec rfl)) Try.underlying3 ((hB.cell (p:=⟨Bx,2,none⟩) HXB.out).trans K2.out)) rfl
             ·intro _ a w2 hB hF hd
              refine flow_wanted (wanted_yes rfl rfl (hd 44 _ rfl (waits_spec rfl)) rfl) ?_
              exact flow_move _ (.inl rfl) (by simp) (hF.same 25 rfl)
             ·intro _ a w2 hB hF hd
              refine flow_wanted (wanted_yes rfl rfl (hd 44 _ rfl (waits_spec rfl)) rfl) ?_
              exact flow_val (fun h=> by cases h) (Go.Bas.run_geq rfl (hd 46 _ rfl (waits_spec rfl)) (hd 47 _ rfl (waits_spec rfl))) (congrArg Value.bool (HGB.out))
             ·intro _ a w2 hB hF hd
              refine flow_wanted (wanted_yes rfl rfl (hd 30 _ rfl (waits_spec rfl)) rfl) ?_
              exact flow_val (fun h=> by cases h) (run_pick rfl (hd 44 _ rfl (waits_spec rfl))) ((hd 48 _ rfl (waits_spec rfl)))
            ·intro a w8 hB hF hS
             have ha:=puts_each rfl rfl hF [_,_,_,_,_,_,_,_,_,_,_,_,_,_,_,_,_,_,_,_,_,_,_,_,_,_,_,_,_,_,_,_,_,_,_,_,_,_,_,_,_,_,_,_,_,_,_,_,_,_] rfl ⟨hS 0 _ rfl (by decide),hS 1 _ rfl (by decide),hS 2 _ rfl (by decide),hS 3 _ rfl (by decide),hS 4 _ rfl (by decide),hS 5 _ rfl (by decide),hS 6 _ rfl (by decide),hS 7 _ rfl (by decide),hS 8 _ rfl (by decide),hS 9 _ rfl (by decide),hS 10 _ rfl (by decide),hS 11 _ rfl (by decide),hS 12 _ rfl (by decide),hS 13 _ rfl (by decide),hS 14 _ rfl (by decide),hS 15 _ rfl (by decide),hS 16 _ rfl (by decide),hS 17 _ rfl (by decide),hS 18 _ rfl (by decide),hS 19 _ rfl (by decide),hS 20 _ rfl (by decide),hS 21 _ rfl (by decide),hS 22 _ rfl (by decide),hS 23 _ rfl (by decide),hS 24 _ rfl (by decide),hS 25 _ rfl (by decide),hS 26 _ rfl (by decide),hS 27 _ rfl (by decide),hS 28 _ rfl (by decide),hS 29 _ rfl (by decide),hS 30 _ rfl (by decide),hS 31 _ rfl (by decide),hS 32 _ rfl (by decide),hS 33 _ rfl (by decide),hS 34 _ rfl (by decide),hS 35 _ rfl (by decide),hS 36 _ rfl (by decide),hS 37 _ rfl (by decide),hS 38 _ rfl (by decide),hS 39 _ rfl (by decide),hS 40 _ rfl (by decide),hS 41 _ rfl (by decide),hS 42 _ rfl (by decide),hS 43 _ rfl (by decide),hS 44 _ rfl (by decide),hS 45 _ rfl (by decide),hS 46 _ rfl (by decide),hS 47 _ rfl (by decide),hS 48 _ rfl (by decide),hS 49 _ rfl (by decide),trivial⟩
             simp only [puts,List.take_succ_cons,List.take_zero,Act.put,List.setIfInBounds_toArray,List.set_cons_succ,List.set_cons_zero] at ha
             subst ha
             change tl _ _ _ (_:: []) _ _
             clear hS hF
             refine tl_val (v:=.bool false) rfl (run_pick_f rfl rfl rfl) (tl_nil ?_)
             have HB8:=Lib.hid hB
             clear hB
             simp only [Act.put,List.setIfInBounds_toArray,List.set_cons_succ,List.set_cons_zero]
             gi_wp2_with (fail)
             exact HFIN.out HB8.out
           ·skip
            refine region_tail_in (n:=225) (by kernel_rfl) 50 (by decide) (by kernel_rfl) (by kernel_rfl) (by kernel_rfl) (by kernel_rfl) rfl
             (fun ii vv _=> (match ii with | 0 | 4 | 31 | 35=> vv=.pointer (some ⟨Bx,0,none⟩) | 1 | 5 | 32 | 36=> vv=.int .i64 (5) | 2 | 3 | 6 | 7 | 8 | 17 | 18 | 37 | 38 | 39 | 43 | 44=> vv=.bool true | 9 | 20=> vv=.pointer (some ⟨Bx,1,none⟩) | 10 | 21=> vv=.int .i64 ((n1:Int)) | 11 | 15 | 24 | 47=> vv=.int .i64 ((x:Int)) | 12 | 13 | 26 | 27 | 28 | 29 | 30 | 33 | 34 | 48 | 49=> vv=.bool false | 14 | 19 | 23=> vv=.pointer (some ⟨p,0,none⟩) | 16 | 25=> vv=.int .i64 (SX) | 22=> vv=.int .i64 (SA) | 40 | 41 | 42=> vv=undef | 45=> vv=.pointer (some ⟨Bx,2,none⟩) | 46=> vv=.int .i64 ((n2:Int)) | _=> True))
             (fun _ _ _ _ h _=> h) ?_ ?_
            ·refine Each.all ?_
             refine ⟨?_,?_,?_,?_,?_,?_,?_,?_,?_,?_,?_,?_,?_,?_,?_,?_,?_,?_,?_,?_,?_,?_,?_,?_,?_,?_,?_,?_,?_,?_,?_,?_,?_,?_,?_,?_,?_,?_,?_,?_,?_,?_,?_,?_,?_,?_,?_,?_,?_,?_,(fun h=> absurd h (by decide)),trivial⟩
             ·intro _ a w2 hB hF hd
              rw [if_pos (wanted_none rfl)]
              refine flow_val (fun h=> by cases h) (run_field_at (m:=0) (k:=0) rfl (hF.same 26 rfl) (by kernel_rfl)) ?_
              exact rfl
             ·intro _ a w2 hB hF hd
              rw [if_pos (wanted_none rfl)]
              exact flow_val (fun h=> by cases h) (run_load_cell rfl (hd 0 _ rfl (waits_spec rfl)) Try.underlying3 ((hB.cell (p:=⟨Bx,0,none⟩) HXB.out).trans K0.out)) rfl
             ·intro _ a w2 hB hF hd
              rw [if_pos (wanted_none rfl)]
              exact flow_val (fun h=> by cases h) (Go.Bas.run_neq_int rfl (hd 1 _ rfl (waits_spec rfl)) rfl) (congrArg Value.bool (rfl))
             ·intro _ a w2 hB hF hd
              rw [if_pos (wanted_none rfl)]
              exact flow_move _ (.inl rfl) (by simp) (hd 2 _ rfl (waits_spec rfl))
             ·intro _ a w2 hB hF hd
              refine flow_wanted (wanted_yes rfl rfl (hd 3 _ rfl (waits_spec rfl)) rfl) ?_
              refine flow_val (fun h=> by cases h) (run_field_at (m:=0) (k:=0) rfl (hF.same 26 rfl) (by kernel_rfl)) ?_
              exact rfl
             ·intro _ a w2 hB hF hd
              refine flow_wanted (wanted_yes rfl rfl (hd 3 _ rfl (waits_spec rfl)) rfl) ?_
              exact flow_val (fun h=> by cases h) (run_load_cell rfl (hd 4 _ rfl (waits_spec rfl)) Try.underlying3 ((hB.cell (p:=⟨Bx,0,none⟩) HXB.out).trans K0.out)) rfl
             ·intro _ a w2 hB hF hd
              refine flow_wanted (wanted_yes rfl rfl (hd 3 _ rfl (waits_spec rfl)) rfl) ?_
              exact flow_val (fun h=> by cases h) (Go.Bas.run_neq_int rfl (hd 5 _ rfl (waits_spec rfl)) rfl) (congrArg Value.bool (rfl))
             ·intro _ a w2 hB hF hd
              rw [if_pos (wanted_none rfl)]
              exact flow_val (fun h=> by cases h) (run_pick rfl (hd 3 _ rfl (waits_spec rfl))) ((hd 6 _ rfl (waits_spec rfl)))
             ·intro _ a w2 hB hF hd
              rw [if_pos (wanted_none rfl)]
              exact flow_move _ (.inl rfl) (by simp) (hd 7 _ rfl (waits_spec rfl))
             ·intro _ a w2 hB hF hd
              refine flow_wanted (wanted_yes rfl rfl (hd 8 _ rfl (waits_spec rfl)) rfl) ?_
              refine flow_val (fun h=> by cases h) (run_field_at (m:=0) (k:=1) rfl (hF.same 26 rfl) (by kernel_rfl)) ?_
              exact rfl
             ·intro _ a w2 hB hF hd
              refine flow_wanted (wanted_yes rfl rfl (hd 8 _ rfl (waits_spec rfl)) rfl) ?_
              exact flow_val (fun h=> by cases h) (run_load_cell rfl (hd 9 _ rfl (waits_spec rfl)) Try.underlying3 ((hB.cell (p:=⟨Bx,1,none⟩) HXB.out).trans K1.out)) rfl
             ·intro _ a w2 hB hF hd
              refine flow_wanted (wanted_yes rfl rfl (hd 8 _ rfl (waits_spec rfl)) rfl) ?_
              exact flow_move _ (.inl rfl) (by simp) (hF.same 25 rfl)
             ·intro _ a w2 hB hF hd
              refine flow_wanted (wanted_yes rfl rfl (hd 8 _ rfl (waits_spec rfl)) rfl) ?_
              exact flow_val (fun h=> by cases h) (Go.Bas.run_geq rfl (hd 10 _ rfl (waits_spec rfl)) (hd 11 _ rfl (waits_spec rfl))) (congrArg Value.bool (HGE.out))
             ·intro _ a w2 hB hF hd
              refine flow_wanted (wanted_yes rfl rfl (hd 8 _ rfl (waits_spec rfl)) rfl) ?_
              exact flow_move _ (.inl rfl) (by simp) (hd 12 _ rfl (waits_spec rfl))
             ·intro _ a w2 hB hF hd
              refine flow_wanted (wanted_yes rfl rfl (hd 13 _ rfl (waits_spec rfl)) rfl) ?_
              exact flow_val (fun h=> by cases h) (run_load_pt rfl (hF.same 10 rfl) Try.underlying90 ((hB.cell (p:=⟨bs,0,none⟩) SB2.out.lt).trans SB2.out.cell)) rfl
             ·intro _ a w2 hB hF hd
              refine flow_wanted (wanted_yes rfl rfl (hd 13 _ rfl (waits_spec rfl)) rfl) ?_
              exact flow_move _ (.inl rfl) (by simp) (hF.same 25 rfl)
             ·intro _ a w2 hB hF hd
              refine flow_wanted (wanted_yes rfl rfl (hd 13 _ rfl (waits_spec rfl)) rfl) ?_
              refine flow_call _ _ _ rfl Try.call60 _ (args2 (hd 14 _ rfl (waits_spec rfl)) (hd 15 _ rfl (waits_spec rfl))) (by simp) ((HSX.out hB).mono ?_)
              rintro e w3 ⟨rfl,hb⟩;exact ⟨_,rfl,rfl,hb⟩
             ·intro _ a w2 hB hF hd
              refine flow_wanted (wanted_yes rfl rfl (hd 13 _ rfl (waits_spec rfl)) rfl) ?_
              exact flow_val (fun h=> by cases h) (Go.Bas.run_lss rfl (hd 16 _ rfl (waits_spec rfl)) rfl) (congrArg Value.bool (HBIG.out))
             ·intro _ a w2 hB hF hd
              refine flow_wanted (wanted_yes rfl rfl (hd 13 _ rfl (waits_spec rfl)) rfl) ?_
              exact flow_move _ (.inl rfl) (by simp) (hd 17 _ rfl (waits_spec rfl))
             ·intro _ a w2 hB hF hd
              refine flow_wanted (wanted_yes rfl rfl (hd 18 _ rfl (waits_spec rfl)) rfl) ?_
              exact flow_val (fun h=> by cases h) (run_load_pt rfl (hF.same 10 rfl) Try.underlying90 ((hB.cell (p:=⟨bs,0,none⟩) SB2.out.lt).trans SB2.out.cell)) rfl
             ·intro _ a w2 hB hF hd
              refine flow_wanted (wanted_yes rfl rfl (hd 18 _ rfl (waits_spec rfl)) rfl) ?_
              refine flow_val (fun h=> by cases h) (run_field_at (m:=0) (k:=1) rfl (hF.same 26 rfl) (by kernel_rfl)) ?_
              exact rfl
             ·intro _ a w2 hB hF hd
              refine flow_wanted (wanted_yes rfl rfl (hd 18 _ rfl (waits_spec rfl)) rfl) ?_
              exact flow_val (fun h=> by cases h) (run_load_cell rfl (hd 20 _ rfl (waits_spec rfl)) Try.underlying3 ((hB.cell (p:=⟨Bx,1,none⟩) HXB.out).trans K1.out)) rfl
             ·intro _ a w2 hB hF hd
              refine flow_wanted (wanted_yes rfl rfl (hd 18 _ rfl (waits_spec rfl)) rfl) ?_
              refine flow_call _ _ _ rfl Try.call60 _ (args2 (hd 19 _ rfl (waits_spec rfl)) (hd 21 _ rfl (waits_spec rfl))) (by simp) ((HSA.out hB).mono ?_)
              rintro e w3 ⟨rfl,hb⟩;exact ⟨_,rfl,rfl,hb⟩
             ·intro _ a w2 hB hF hd
              refine flow_wanted (wanted_yes rfl rfl (hd 18 _ rfl (waits_spec rfl)) rfl) ?_
              exact flow_val (fun h=> by cases h) (run_load_pt rfl (hF.same 10 rfl) Try.underlying90 ((hB.cell (p:=⟨bs,0,none⟩) SB2.out.lt).trans SB2.out.cell)) rfl
             ·intro _ a w2 hB hF hd
              refine flow_wanted (wanted_yes rfl rfl (hd 18 _ rfl (waits_spec rfl)) rfl) ?_
              exact flow_move _ (.inl rfl) (by simp) (hF.same 25 rfl)
             ·intro _ a w2 hB hF hd
              refine flow_wanted (wanted_yes rfl rfl (hd 18 _ rfl (waits_spec rfl)) rfl) ?_
              refine flow_call _ _ _ rfl Try.call60 _ (args2 (hd 23 _ rfl (waits_spec rfl)) (hd 24 _ rfl (waits_spec rfl))) (by simp) ((HSX.out hB).mono ?_)
              rintro e w3 ⟨rfl,hb⟩;exact ⟨_,rfl,rfl,hb⟩
             ·intro _ a w2 hB hF hd
              refine flow_wanted (wanted_yes rfl rfl (hd 18 _ rfl (waits_spec rfl)) rfl) ?_
              exact flow_val (fun h=> by cases h) (Go.Bas.run_geq rfl (hd 22 _ rfl (waits_spec rfl)) (hd 25 _ rfl (waits_spec rfl))) (congrArg Value.bool (HGS.out))
             ·intro _ a w2 hB hF hd
              refine flow_wanted (wanted_yes rfl rfl (hd 13 _ rfl (waits_spec rfl)) rfl) ?_
              exact flow_val (fun h=> by cases h) (run_pick rfl (hd 18 _ rfl (waits_spec rfl))) ((hd 26 _ rfl (waits_spec rfl)))
             ·intro _ a w2 hB hF hd
              refine flow_wanted (wanted_yes rfl rfl (hd 8 _ rfl (waits_spec rfl)) rfl) ?_
              exact flow_val (fun h=> by cases h) (run_pick rfl (hd 13 _ rfl (waits_spec rfl))) ((hd 27 _ rfl (waits_spec rfl)))
             ·intro _ a w2 hB hF hd
              rw [if_pos (wanted_none rfl)]
              exact flow_val (fun h=> by cases h) (run_pick rfl (hd 8 _ rfl (waits_spec rfl))) ((hd 28 _ rfl (waits_spec rfl)))
             ·intro _ a w2 hB hF hd
              rw [if_pos (wanted_none rfl)]
              exact flow_move _ (.inl rfl) (by simp) (hd 29 _ rfl (waits_spec rfl))
             ·intro _ a w2 hB hF hd
              refine flow_wanted (wanted_yes rfl rfl (hd 30 _ rfl (waits_spec rfl)) rfl) ?_
              refine flow_val (fun h=> by cases h) (run_field_at (m:=0) (k:=0) rfl (hF.same 26 rfl) (by kernel_rfl)) ?_
              exact rfl
             ·intro _ a w2 hB hF hd
              refine flow_wanted (wanted_yes rfl rfl (hd 30 _ rfl (waits_spec rfl)) rfl) ?_
              exact flow_val (fun h=> by cases h) (run_load_cell rfl (hd 31 _ rfl (waits_spec rfl)) Try.underlying3 ((hB.cell (p:=⟨Bx,0,none⟩) HXB.out).trans K0.out)) rfl
             ·intro _ a w2 hB hF hd
              refine flow_wanted (wanted_yes rfl rfl (hd 30 _ rfl (waits_spec rfl)) rfl) ?_
              refine flow_val (fun h=> by cases h) (Go.Bas.run_eql_int rfl (hd 32 _ rfl (waits_spec rfl)) rfl) ?_
              exact rfl
             ·intro _ a w2 hB hF hd
              refine flow_wanted (wanted_yes rfl rfl (hd 30 _ rfl (waits_spec rfl)) rfl) ?_
              exact flow_move _ (.inl rfl) (by simp) (hd 33 _ rfl (waits_spec rfl))
             ·intro _ a w2 hB hF hd
              refine flow_wanted (wanted_yes rfl rfl (hd 34 _ rfl (waits_spec rfl)) rfl) ?_
              refine flow_val (fun h=> by cases h) (run_field_at (m:=0) (k:=0) rfl (hF.same 26 rfl) (by kernel_rfl)) ?_
              exact rfl
             ·intro _ a w2 hB hF hd
              refine flow_wanted (wanted_yes rfl rfl (hd 34 _ rfl (waits_spec rfl)) rfl) ?_
              exact flow_val (fun h=> by cases h) (run_load_cell rfl (hd 35 _ rfl (waits_spec rfl)) Try.underlying3 ((hB.cell (p:=⟨Bx,0,none⟩) HXB.out).trans K0.out)) rfl
             ·intro _ a w2 hB hF hd
              refine flow_wanted (wanted_yes rfl rfl (hd 34 _ rfl (waits_spec rfl)) rfl) ?_
              refine flow_val (fun h=> by cases h) (Go.Bas.run_eql_int rfl (hd 36 _ rfl (waits_spec rfl)) rfl) ?_
              exact rfl
             ·intro _ a w2 hB hF hd
              refine flow_wanted (wanted_yes rfl rfl (hd 30 _ rfl (waits_spec rfl)) rfl) ?_
              exact flow_val (fun h=> by cases h) (run_pick rfl (hd 34 _ rfl (waits_spec rfl))) ((hd 37 _ rfl (waits_spec rfl)))
             ·intro _ a w2 hB hF hd
              refine flow_wanted (wanted_yes rfl rfl (hd 30 _ rfl (waits_spec rfl)) rfl) ?_
              exact flow_move _ (.inl rfl) (by simp) (hd 38 _ rfl (waits_spec rfl))
             ·intro _ a w2 hB hF hd
              rw [if_neg (by rw [wanted_some rfl rfl (hd 39 _ rfl (waits_spec rfl))];decide)]
              exact rfl
             ·intro _ a w2 hB hF hd
              rw [if_neg (by rw [wanted_some rfl rfl (hd 39 _ rfl (waits_spec rfl))];decide)]
              exact rfl
             ·intro _ a w2 hB hF hd
              rw [if_neg (by rw [wanted_some rfl rfl (hd 39 _ rfl (waits_spec rfl))];decide)]
              exact rfl
             ·intro _ a w2 hB hF hd
              refine flow_wanted (wanted_yes rfl rfl (hd 30 _ rfl (waits_spec rfl)) rfl) ?_
              exact flow_val (fun h=> by cases h) (run_pick rfl (hd 39 _ rfl (waits_spec rfl))) (rfl)
             ·intro _ a w2 hB hF hd
              refine flow_wanted (wanted_yes rfl rfl (hd 30 _ rfl (waits_spec rfl)) rfl) ?_
              exact flow_move _ (.inl rfl) (by simp) (hd 43 _ rfl (waits_spec rfl))
             ·intro _ a w2 hB hF hd
              refine flow_wanted (wanted_yes rfl rfl (hd 44 _ rfl (waits_spec rfl)) rfl) ?_
              refine flow_val (fun h=> by cases h) (run_field_at (m:=0) (k:=2) rfl (hF.same 26 rfl) (by kernel_rfl)) ?_
              exact rfl
             ·intro _ a w2 hB hF hd
              refine flow_wanted (wanted_yes rfl rfl (hd 44 _ rfl (waits_spec rfl)) rfl) ?_
              exact flow_val (fun h=> by cases h) (run_load_cell rfl (hd 45 _ rfl (waits_spec rfl)) Try.underlying3 ((hB.cell (p:=⟨Bx,2,none⟩) HXB.out).trans K2.out)) rfl
             ·intro _ a w2 hB hF hd
              refine flow_wanted (wanted_yes rfl rfl (hd 44 _ rfl (waits_spec rfl)) rfl) ?_
              exact flow_move _ (.inl rfl) (by simp) (hF.same 25 rfl)
             ·intro _ a w2 hB hF hd
              refine flow_wanted (wanted_yes rfl rfl (hd 44 _ rfl (waits_spec rfl)) rfl) ?_
              exact flow_val (fun h=> by cases h) (Go.Bas.run_geq rfl (hd 46 _ rfl (waits_spec rfl)) (hd 47 _ rfl (waits_spec rfl))) (congrArg Value.bool (HGB.out))
             ·intro _ a w2 hB hF hd
              refine flow_wanted (wanted_yes rfl rfl (hd 30 _ rfl (waits_spec rfl)) rfl) ?_
              exact flow_val (fun h=> by cases h) (run_pick rfl (hd 44 _ rfl (waits_spec rfl))) ((hd 48 _ rfl (waits_spec rfl)))
            ·intro a w8 hB hF hS
             have ha:=puts_each rfl rfl hF [_,_,_,_,_,_,_,_,_,_,_,_,_,_,_,_,_,_,_,_,_,_,_,_,_,_,_,_,_,_,_,_,_,_,_,_,_,_,_,_,_,_,_,_,_,_,_,_,_,_] rfl ⟨hS 0 _ rfl (by decide),hS 1 _ rfl (by decide),hS 2 _ rfl (by decide),hS 3 _ rfl (by decide),hS 4 _ rfl (by decide),hS 5 _ rfl (by decide),hS 6 _ rfl (by decide),hS 7 _ rfl (by decide),hS 8 _ rfl (by decide),hS 9 _ rfl (by decide),hS 10 _ rfl (by decide),hS 11 _ rfl (by decide),hS 12 _ rfl (by decide),hS 13 _ rfl (by decide),hS 14 _ rfl (by decide),hS 15 _ rfl (by decide),hS 16 _ rfl (by decide),hS 17 _ rfl (by decide),hS 18 _ rfl (by decide),hS 19 _ rfl (by decide),hS 20 _ rfl (by decide),hS 21 _ rfl (by decide),hS 22 _ rfl (by decide),hS 23 _ rfl (by decide),hS 24 _ rfl (by decide),hS 25 _ rfl (by decide),hS 26 _ rfl (by decide),hS 27 _ rfl (by decide),hS 28 _ rfl (by decide),hS 29 _ rfl (by decide),hS 30 _ rfl (by decide),hS 31 _ rfl (by decide),hS 32 _ rfl (by decide),hS 33 _ rfl (by decide),hS 34 _ rfl (by decide),hS 35 _ rfl (by decide),hS 36 _ rfl (by decide),hS 37 _ rfl (by decide),hS 38 _ rfl (by decide),hS 39 _ rfl (by decide),hS 40 _ rfl (by decide),hS 41 _ rfl (by decide),hS 42 _ rfl (by decide),hS 43 _ rfl (by decide),hS 44 _ rfl (by decide),hS 45 _ rfl (by decide),hS 46 _ rfl (by decide),hS 47 _ rfl (by decide),hS 48 _ rfl (by decide),hS 49 _ rfl (by decide),trivial⟩
             simp only [puts,List.take_succ_cons,List.take_zero,Act.put,List.setIfInBounds_toArray,List.set_cons_succ,List.set_cons_zero] at ha
             subst ha
             change tl _ _ _ (_:: []) _ _
             clear hS hF
             refine tl_val (v:=.bool false) rfl (run_pick_f rfl rfl rfl) (tl_nil ?_)
             have HB8:=Lib.hid hB
             clear hB
             simp only [Act.put,List.setIfInBounds_toArray,List.set_cons_succ,List.set_cons_zero]
             gi_wp2_with (fail)
             exact HFIN.out HB8.out
           ·skip
            refine region_tail_in (n:=225) (by kernel_rfl) 50 (by decide) (by kernel_rfl) (by kernel_rfl) (by kernel_rfl) (by kernel_rfl) rfl
             (fun ii vv _=> (match ii with | 0 | 4 | 31 | 35 | 40=> vv=.pointer (some ⟨Bx,0,none⟩) | 1 | 5 | 32 | 36 | 41=> vv=.int .i64 (8) | 2 | 3 | 6 | 7 | 8 | 17 | 18 | 42 | 43 | 44=> vv=.bool true | 9 | 20=> vv=.pointer (some ⟨Bx,1,none⟩) | 10 | 21=> vv=.int .i64 ((n1:Int)) | 11 | 15 | 24 | 47=> vv=.int .i64 ((x:Int)) | 12 | 13 | 26 | 27 | 28 | 29 | 30 | 33 | 34 | 37 | 38 | 39 | 48 | 49=> vv=.bool false | 14 | 19 | 23=> vv=.pointer (some ⟨p,0,none⟩) | 16 | 25=> vv=.int .i64 (SX) | 22=> vv=.int .i64 (SA) | 45=> vv=.pointer (some ⟨Bx,2,none⟩) | 46=> vv=.int .i64 ((n2:Int)) | _=> True))
             (fun _ _ _ _ h _=> h) ?_ ?_
            ·refine Each.all ?_
             refine ⟨?_,?_,?_,?_,?_,?_,?_,?_,?_,?_,?_,?_,?_,?_,?_,?_,?_,?_,?_,?_,?_,?_,?_,?_,?_,?_,?_,?_,?_,?_,?_,?_,?_,?_,?_,?_,?_,?_,?_,?_,?_,?_,?_,?_,?_,?_,?_,?_,?_,?_,(fun h=> absurd h (by decide)),trivial⟩
             ·intro _ a w2 hB hF hd
              rw [if_pos (wanted_none rfl)]
              refine flow_val (fun h=> by cases h) (run_field_at (m:=0) (k:=0) rfl (hF.same 26 rfl) (by kernel_rfl)) ?_
              exact rfl
             ·intro _ a w2 hB hF hd
              rw [if_pos (wanted_none rfl)]
              exact flow_val (fun h=> by cases h) (run_load_cell rfl (hd 0 _ rfl (waits_spec rfl)) Try.underlying3 ((hB.cell (p:=⟨Bx,0,none⟩) HXB.out).trans K0.out)) rfl
             ·intro _ a w2 hB hF hd
              rw [if_pos (wanted_none rfl)]
              exact flow_val (fun h=> by cases h) (Go.Bas.run_neq_int rfl (hd 1 _ rfl (waits_spec rfl)) rfl) (congrArg Value.bool (rfl))
             ·intro _ a w2 hB hF hd
              rw [if_pos (wanted_none rfl)]
              exact flow_move _ (.inl rfl) (by simp) (hd 2 _ rfl (waits_spec rfl))
             ·intro _ a w2 hB hF hd
              refine flow_wanted (wanted_yes rfl rfl (hd 3 _ rfl (waits_spec rfl)) rfl) ?_
              refine flow_val (fun h=> by cases h) (run_field_at (m:=0) (k:=0) rfl (hF.same 26 rfl) (by kernel_rfl)) ?_
              exact rfl
             ·intro _ a w2 hB hF hd
              refine flow_wanted (wanted_yes rfl rfl (hd 3 _ rfl (waits_spec rfl)) rfl) ?_
              exact flow_val (fun h=> by cases h) (run_load_cell rfl (hd 4 _ rfl (waits_spec rfl)) Try.underlying3 ((hB.cell (p:=⟨Bx,0,none⟩) HXB.out).trans K0.out)) rfl
             ·intro _ a w2 hB hF hd
              refine flow_wanted (wanted_yes rfl rfl (hd 3 _ rfl (waits_spec rfl)) rfl) ?_
              exact flow_val (fun h=> by cases h) (Go.Bas.run_neq_int rfl (hd 5 _ rfl (waits_spec rfl)) rfl) (congrArg Value.bool (rfl))
             ·intro _ a w2 hB hF hd
              rw [if_pos (wanted_none rfl)]
              exact flow_val (fun h=> by cases h) (run_pick rfl (hd 3 _ rfl (waits_spec rfl))) ((hd 6 _ rfl (waits_spec rfl)))
             ·intro _ a w2 hB hF hd
              rw [if_pos (wanted_none rfl)]
              exact flow_move _ (.inl rfl) (by simp) (hd 7 _ rfl (waits_spec rfl))
             ·intro _ a w2 hB hF hd
              refine flow_wanted (wanted_yes rfl rfl (hd 8 _ rfl (waits_spec rfl)) rfl) ?_
              refine flow_val (fun h=> by cases h) (run_field_at (m:=0) (k:=1) rfl (hF.same 26 rfl) (by kernel_rfl)) ?_
              exact rfl
             ·intro _ a w2 hB hF hd
              refine flow_wanted (wanted_yes rfl rfl (hd 8 _ rfl (waits_spec rfl)) rfl) ?_
              exact flow_val (fun h=> by cases h) (run_load_cell rfl (hd 9 _ rfl (waits_spec rfl)) Try.underlying3 ((hB.cell (p:=⟨Bx,1,none⟩) HXB.out).trans K1.out)) rfl
             ·intro _ a w2 hB hF hd
              refine flow_wanted (wanted_yes rfl rfl (hd 8 _ rfl (waits_spec rfl)) rfl) ?_
              exact flow_move _ (.inl rfl) (by simp) (hF.same 25 rfl)
             ·intro _ a w2 hB hF hd
              refine flow_wanted (wanted_yes rfl rfl (hd 8 _ rfl (waits_spec rfl)) rfl) ?_
              exact flow_val (fun h=> by cases h) (Go.Bas.run_geq rfl (hd 10 _ rfl (waits_spec rfl)) (hd 11 _ rfl (waits_spec rfl))) (congrArg Value.bool (HGE.out))
             ·intro _ a w2 hB hF hd
              refine flow_wanted (wanted_yes rfl rfl (hd 8 _ rfl (waits_spec rfl)) rfl) ?_
              exact flow_move _ (.inl rfl) (by simp) (hd 12 _ rfl (waits_spec rfl))
             ·intro _ a w2 hB hF hd
              refine flow_wanted (wanted_yes rfl rfl (hd 13 _ rfl (waits_spec rfl)) rfl) ?_
              exact flow_val (fun h=> by cases h) (run_load_pt rfl (hF.same 10 rfl) Try.underlying90 ((hB.cell (p:=⟨bs,0,none⟩) SB2.out.lt).trans SB2.out.cell)) rfl
             ·intro _ a w2 hB hF hd
              refine flow_wanted (wanted_yes rfl rfl (hd 13 _ rfl (waits_spec rfl)) rfl) ?_
              exact flow_move _ (.inl rfl) (by simp) (hF.same 25 rfl)
             ·intro _ a w2 hB hF hd
              refine flow_wanted (wanted_yes rfl rfl (hd 13 _ rfl (waits_spec rfl)) rfl) ?_
              refine flow_call _ _ _ rfl Try.call60 _ (args2 (hd 14 _ rfl (waits_spec rfl)) (hd 15 _ rfl (waits_spec rfl))) (by simp) ((HSX.out hB).mono ?_)
              rintro e w3 ⟨rfl,hb⟩;exact ⟨_,rfl,rfl,hb⟩
             ·intro _ a w2 hB hF hd
              refine flow_wanted (wanted_yes rfl rfl (hd 13 _ rfl (waits_spec rfl)) rfl) ?_
              exact flow_val (fun h=> by cases h) (Go.Bas.run_lss rfl (hd 16 _ rfl (waits_spec rfl)) rfl) (congrArg Value.bool (HBIG.out))
             ·intro _ a w2 hB hF hd
              refine flow_wanted (wanted_yes rfl rfl (hd 13 _ rfl (waits_spec rfl)) rfl) ?_
              exact flow_move _ (.inl rfl) (by simp) (hd 17 _ rfl (waits_spec rfl))
             ·intro _ a w2 hB hF hd
              refine flow_wanted (wanted_yes rfl rfl (hd 18 _ rfl (waits_spec rfl)) rfl) ?_
              exact flow_val (fun h=> by cases h) (run_load_pt rfl (hF.same 10 rfl) Try.underlying90 ((hB.cell (p:=⟨bs,0,none⟩) SB2.out.lt).trans SB2.out.cell)) rfl
             ·intro _ a w2 hB hF hd
              refine flow_wanted (wanted_yes rfl rfl (hd 18 _ rfl (waits_spec rfl)) rfl) ?_
              refine flow_val (fun h=> by cases h) (run_field_at (m:=0) (k:=1) rfl (hF.same 26 rfl) (by kernel_rfl)) ?_
              exact rfl
             ·intro _ a w2 hB hF hd
              refine flow_wanted (wanted_yes rfl rfl (hd 18 _ rfl (waits_spec rfl)) rfl) ?_
              exact flow_val (fun h=> by cases h) (run_load_cell rfl (hd 20 _ rfl (waits_spec rfl)) Try.underlying3 ((hB.cell (p:=⟨Bx,1,none⟩) HXB.out).trans K1.out)) rfl
             ·intro _ a w2 hB hF hd
              refine flow_wanted (wanted_yes rfl rfl (hd 18 _ rfl (waits_spec rfl)) rfl) ?_
              refine flow_call _ _ _ rfl Try.call60 _ (args2 (hd 19 _ rfl (waits_spec rfl)) (hd 21 _ rfl (waits_spec rfl))) (by simp) ((HSA.out hB).mono ?_)
              rintro e w3 ⟨rfl,hb⟩;exact ⟨_,rfl,rfl,hb⟩
             ·intro _ a w2 hB hF hd
              refine flow_wanted (wanted_yes rfl rfl (hd 18 _ rfl (waits_spec rfl)) rfl) ?_
              exact flow_val (fun h=> by cases h) (run_load_pt rfl (hF.same 10 rfl) Try.underlying90 ((hB.cell (p:=⟨bs,0,none⟩) SB2.out.lt).trans SB2.out.cell)) rfl
             ·intro _ a w2 hB hF hd
              refine flow_wanted (wanted_yes rfl rfl (hd 18 _ rfl (waits_spec rfl)) rfl) ?_
              exact flow_move _ (.inl rfl) (by simp) (hF.same 25 rfl)
             ·intro _ a w2 hB hF hd
              refine flow_wanted (wanted_yes rfl rfl (hd 18 _ rfl (waits_spec rfl)) rfl) ?_
              refine flow_call _ _ _ rfl Try.call60 _ (args2 (hd 23 _ rfl (waits_spec rfl)) (hd 24 _ rfl (waits_spec rfl))) (by simp) ((HSX.out hB).mono ?_)
              rintro e w3 ⟨rfl,hb⟩;exact ⟨_,rfl,rfl,hb⟩
             ·intro _ a w2 hB hF hd
              refine flow_wanted (wanted_yes rfl rfl (hd 18 _ rfl (waits_spec rfl)) rfl) ?_
              exact flow_val (fun h=> by cases h) (Go.Bas.run_geq rfl (hd 22 _ rfl (waits_spec rfl)) (hd 25 _ rfl (waits_spec rfl))) (congrArg Value.bool (HGS.out))
             ·intro _ a w2 hB hF hd
              refine flow_wanted (wanted_yes rfl rfl (hd 13 _ rfl (waits_spec rfl)) rfl) ?_
              exact flow_val (fun h=> by cases h) (run_pick rfl (hd 18 _ rfl (waits_spec rfl))) ((hd 26 _ rfl (waits_spec rfl)))
             ·intro _ a w2 hB hF hd
              refine flow_wanted (wanted_yes rfl rfl (hd 8 _ rfl (waits_spec rfl)) rfl) ?_
              exact flow_val (fun h=> by cases h) (run_pick rfl (hd 13 _ rfl (waits_spec rfl))) ((hd 27 _ rfl (waits_spec rfl)))
             ·intro _ a w2 hB hF hd
              rw [if_pos (wanted_none rfl)]
              exact flow_val (fun h=> by cases h) (run_pick rfl (hd 8 _ rfl (waits_spec rfl))) ((hd 28 _ rfl (waits_spec rfl)))
             ·intro _ a w2 hB hF hd
              rw [if_pos (wanted_none rfl)]
              exact flow_move _ (.inl rfl) (by simp) (hd 29 _ rfl (waits_spec rfl))
             ·intro _ a w2 hB hF hd
              refine flow_wanted (wanted_yes rfl rfl (hd 30 _ rfl (waits_spec rfl)) rfl) ?_
              refine flow_val (fun h=> by cases h) (run_field_at (m:=0) (k:=0) rfl (hF.same 26 rfl) (by kernel_rfl)) ?_
              exact rfl
             ·intro _ a w2 hB hF hd
              refine flow_wanted (wanted_yes rfl rfl (hd 30 _ rfl (waits_spec rfl)) rfl) ?_
              exact flow_val (fun h=> by cases h) (run_load_cell rfl (hd 31 _ rfl (waits_spec rfl)) Try.underlying3 ((hB.cell (p:=⟨Bx,0,none⟩) HXB.out).trans K0.out)) rfl
             ·intro _ a w2 hB hF hd
              refine flow_wanted (wanted_yes rfl rfl (hd 30 _ rfl (waits_spec rfl)) rfl) ?_
              refine flow_val (fun h=> by cases h) (Go.Bas.run_eql_int rfl (hd 32 _ rfl (waits_spec rfl)) rfl) ?_
              exact rfl
             ·intro _ a w2 hB hF hd
              refine flow_wanted (wanted_yes rfl rfl (hd 30 _ rfl (waits_spec rfl)) rfl) ?_
              exact flow_move _ (.inl rfl) (by simp) (hd 33 _ rfl (waits_spec rfl))
             ·intro _ a w2 hB hF hd
              refine flow_wanted (wanted_yes rfl rfl (hd 34 _ rfl (waits_spec rfl)) rfl) ?_
              refine flow_val (fun h=> by cases h) (run_field_at (m:=0) (k:=0) rfl (hF.same 26 rfl) (by kernel_rfl)) ?_
              exact rfl
             ·intro _ a w2 hB hF hd
              refine flow_wanted (wanted_yes rfl rfl (hd 34 _ rfl (waits_spec rfl)) rfl) ?_
              exact flow_val (fun h=> by cases h) (run_load_cell rfl (hd 35 _ rfl (waits_spec rfl)) Try.underlying3 ((hB.cell (p:=⟨Bx,0,none⟩) HXB.out).trans K0.out)) rfl
             ·intro _ a w2 hB hF hd
              refine flow_wanted (wanted_yes rfl rfl (hd 34 _ rfl (waits_spec rfl)) rfl) ?_
              refine flow_val (fun h=> by cases h) (Go.Bas.run_eql_int rfl (hd 36 _ rfl (waits_spec rfl)) rfl) ?_
              exact rfl
             ·intro _ a w2 hB hF hd
              refine flow_wanted (wanted_yes rfl rfl (hd 30 _ rfl (waits_spec rfl)) rfl) ?_
              exact flow_val (fun h=> by cases h) (run_pick rfl (hd 34 _ rfl (waits_spec rfl))) ((hd 37 _ rfl (waits_spec rfl)))
             ·intro _ a w2 hB hF hd
              refine flow_wanted (wanted_yes rfl rfl (hd 30 _ rfl (waits_spec rfl)) rfl) ?_
              exact flow_move _ (.inl rfl) (by simp) (hd 38 _ rfl (waits_spec rfl))
             ·intro _ a w2 hB hF hd
              refine flow_wanted (wanted_yes rfl rfl (hd 39 _ rfl (waits_spec rfl)) rfl) ?_
              refine flow_val (fun h=> by cases h) (run_field_at (m:=0) (k:=0) rfl (hF.same 26 rfl) (by kernel_rfl)) ?_
              exact rfl
             ·intro _ a w2 hB hF hd
              refine flow_wanted (wanted_yes rfl rfl (hd 39 _ rfl (waits_spec rfl)) rfl) ?_
              exact flow_val (fun h=> by cases h) (run_load_cell rfl (hd 40 _ rfl (waits_spec rfl)) Try.underlying3 ((hB.cell (p:=⟨Bx,0,none⟩) HXB.out).trans K0.out)) rfl
             ·intro _ a w2 hB hF hd
              refine flow_wanted (wanted_yes rfl rfl (hd 39 _ rfl (waits_spec rfl)) rfl) ?_
              refine flow_val (fun h=> by cases h) (Go.Bas.run_eql_int rfl (hd 41 _ rfl (waits_spec rfl)) rfl) ?_
              exact rfl
             ·intro _ a w2 hB hF hd
              refine flow_wanted (wanted_yes rfl rfl (hd 30 _ rfl (waits_spec rfl)) rfl) ?_
              exact flow_val (fun h=> by cases h) (run_pick rfl (hd 39 _ rfl (waits_spec rfl))) ((hd 42 _ rfl (waits_spec rfl)))
             ·intro _ a w2 hB hF hd
              refine flow_wanted (wanted_yes rfl rfl (hd 30 _ rfl (waits_spec rfl)) rfl) ?_
              exact flow_move _ (.inl rfl) (by simp) (hd 43 _ rfl (waits_spec rfl))
             ·intro _ a w2 hB hF hd
              refine flow_wanted (wanted_yes rfl rfl (hd 44 _ rfl (waits_spec rfl)) rfl) ?_
              refine flow_val (fun h=> by cases h) (run_field_at (m:=0) (k:=2) rfl (hF.same 26 rfl) (by kernel_rfl)) ?_
              exact rfl
             ·intro _ a w2 hB hF hd
              refine flow_wanted (wanted_yes rfl rfl (hd 44 _ rfl (waits_spec rfl)) rfl) ?_
              exact flow_val (fun h=> by cases h) (run_load_cell rfl (hd 45 _ rfl (waits_spec rfl)) Try.underlying3 ((hB.cell (p:=⟨Bx,2,none⟩) HXB.out).trans K2.out)) rfl
             ·intro _ a w2 hB hF hd
              refine flow_wanted (wanted_yes rfl rfl (hd 44 _ rfl (waits_spec rfl)) rfl) ?_
              exact flow_move _ (.inl rfl) (by simp) (hF.same 25 rfl)
             ·intro _ a w2 hB hF hd
              refine flow_wanted (wanted_yes rfl rfl (hd 44 _ rfl (waits_spec rfl)) rfl) ?_
              exact flow_val (fun h=> by cases h) (Go.Bas.run_geq rfl (hd 46 _ rfl (waits_spec rfl)) (hd 47 _ rfl (waits_spec rfl))) (congrArg Value.bool (HGB.out))
             ·intro _ a w2 hB hF hd
              refine flow_wanted (wanted_yes rfl rfl (hd 30 _ rfl (waits_spec rfl)) rfl) ?_
              exact flow_val (fun h=> by cases h) (run_pick rfl (hd 44 _ rfl (waits_spec rfl))) ((hd 48 _ rfl (waits_spec rfl)))
            ·intro a w8 hB hF hS
             have ha:=puts_each rfl rfl hF [_,_,_,_,_,_,_,_,_,_,_,_,_,_,_,_,_,_,_,_,_,_,_,_,_,_,_,_,_,_,_,_,_,_,_,_,_,_,_,_,_,_,_,_,_,_,_,_,_,_] rfl ⟨hS 0 _ rfl (by decide),hS 1 _ rfl (by decide),hS 2 _ rfl (by decide),hS 3 _ rfl (by decide),hS 4 _ rfl (by decide),hS 5 _ rfl (by decide),hS 6 _ rfl (by decide),hS 7 _ rfl (by decide),hS 8 _ rfl (by decide),hS 9 _ rfl (by decide),hS 10 _ rfl (by decide),hS 11 _ rfl (by decide),hS 12 _ rfl (by decide),hS 13 _ rfl (by decide),hS 14 _ rfl (by decide),hS 15 _ rfl (by decide),hS 16 _ rfl (by decide),hS 17 _ rfl (by decide),hS 18 _ rfl (by decide),hS 19 _ rfl (by decide),hS 20 _ rfl (by decide),hS 21 _ rfl (by decide),hS 22 _ rfl (by decide),hS 23 _ rfl (by decide),hS 24 _ rfl (by decide),hS 25 _ rfl (by decide),hS 26 _ rfl (by decide),hS 27 _ rfl (by decide),hS 28 _ rfl (by decide),hS 29 _ rfl (by decide),hS 30 _ rfl (by decide),hS 31 _ rfl (by decide),hS 32 _ rfl (by decide),hS 33 _ rfl (by decide),hS 34 _ rfl (by decide),hS 35 _ rfl (by decide),hS 36 _ rfl (by decide),hS 37 _ rfl (by decide),hS 38 _ rfl (by decide),hS 39 _ rfl (by decide),hS 40 _ rfl (by decide),hS 41 _ rfl (by decide),hS 42 _ rfl (by decide),hS 43 _ rfl (by decide),hS 44 _ rfl (by decide),hS 45 _ rfl (by decide),hS 46 _ rfl (by decide),hS 47 _ rfl (by decide),hS 48 _ rfl (by decide),hS 49 _ rfl (by decide),trivial⟩
             simp only [puts,List.take_succ_cons,List.take_zero,Act.put,List.setIfInBounds_toArray,List.set_cons_succ,List.set_cons_zero] at ha
             subst ha
             change tl _ _ _ (_:: []) _ _
             clear hS hF
             refine tl_val (v:=.bool false) rfl (run_pick_f rfl rfl rfl) (tl_nil ?_)
             have HB8:=Lib.hid hB
             clear hB
             simp only [Act.put,List.setIfInBounds_toArray,List.set_cons_succ,List.set_cons_zero]
             gi_wp2_with (fail)
             exact HFIN.out HB8.out
          ·have HBIG:Hid (decide (SX<1048576)=false):=Lib.hid (decide_eq_false hbig)
           clear hbig hszx hSA hnl hgt hxl hSX hn1 hn2
           rcases hk1 with rfl | rfl | rfl
           ·skip
            refine region_tail_in (n:=225) (by kernel_rfl) 50 (by decide) (by kernel_rfl) (by kernel_rfl) (by kernel_rfl) (by kernel_rfl) rfl
             (fun ii vv _=> (match ii with | 0 | 4 | 31=> vv=.pointer (some ⟨Bx,0,none⟩) | 1 | 5 | 32=> vv=.int .i64 (4) | 2 | 3 | 6 | 7 | 8 | 33 | 34 | 38 | 39 | 43 | 44=> vv=.bool true | 9=> vv=.pointer (some ⟨Bx,1,none⟩) | 10=> vv=.int .i64 ((n1:Int)) | 11 | 15 | 47=> vv=.int .i64 ((x:Int)) | 12 | 13 | 17 | 18 | 27 | 28 | 29 | 30 | 48 | 49=> vv=.bool false | 14=> vv=.pointer (some ⟨p,0,none⟩) | 16=> vv=.int .i64 (SX) | 19 | 20 | 21 | 22 | 23 | 24 | 25 | 26 | 35 | 36 | 37 | 40 | 41 | 42=> vv=undef | 45=> vv=.pointer (some ⟨Bx,2,none⟩) | 46=> vv=.int .i64 ((n2:Int)) | _=> True))
             (fun _ _ _ _ h _=> h) ?_ ?_
            ·refine Each.all ?_
             refine ⟨?_,?_,?_,?_,?_,?_,?_,?_,?_,?_,?_,?_,?_,?_,?_,?_,?_,?_,?_,?_,?_,?_,?_,?_,?_,?_,?_,?_,?_,?_,?_,?_,?_,?_,?_,?_,?_,?_,?_,?_,?_,?_,?_,?_,?_,?_,?_,?_,?_,?_,(fun h=> absurd h (by decide)),trivial⟩
             ·intro _ a w2 hB hF hd
              rw [if_pos (wanted_none rfl)]
              refine flow_val (fun h=> by cases h) (run_field_at (m:=0) (k:=0) rfl (hF.same 26 rfl) (by kernel_rfl)) ?_
              exact rfl
             ·intro _ a w2 hB hF hd
              rw [if_pos (wanted_none rfl)]
              exact flow_val (fun h=> by cases h) (run_load_cell rfl (hd 0 _ rfl (waits_spec rfl)) Try.underlying3 ((hB.cell (p:=⟨Bx,0,none⟩) HXB.out).trans K0.out)) rfl
             ·intro _ a w2 hB hF hd
              rw [if_pos (wanted_none rfl)]
              exact flow_val (fun h=> by cases h) (Go.Bas.run_neq_int rfl (hd 1 _ rfl (waits_spec rfl)) rfl) (congrArg Value.bool (rfl))
             ·intro _ a w2 hB hF hd
              rw [if_pos (wanted_none rfl)]
              exact flow_move _ (.inl rfl) (by simp) (hd 2 _ rfl (waits_spec rfl))
             ·intro _ a w2 hB hF hd
              refine flow_wanted (wanted_yes rfl rfl (hd 3 _ rfl (waits_spec rfl)) rfl) ?_
              refine flow_val (fun h=> by cases h) (run_field_at (m:=0) (k:=0) rfl (hF.same 26 rfl) (by kernel_rfl)) ?_
              exact rfl
             ·intro _ a w2 hB hF hd
              refine flow_wanted (wanted_yes rfl rfl (hd 3 _ rfl (waits_spec rfl)) rfl) ?_
              exact flow_val (fun h=> by cases h) (run_load_cell rfl (hd 4 _ rfl (waits_spec rfl)) Try.underlying3 ((hB.cell (p:=⟨Bx,0,none⟩) HXB.out).trans K0.out)) rfl
             ·intro _ a w2 hB hF hd
              refine flow_wanted (wanted_yes rfl rfl (hd 3 _ rfl (waits_spec rfl)) rfl) ?_
              exact flow_val (fun h=> by cases h) (Go.Bas.run_neq_int rfl (hd 5 _ rfl (waits_spec rfl)) rfl) (congrArg Value.bool (rfl))
             ·intro _ a w2 hB hF hd
              rw [if_pos (wanted_none rfl)]
              exact flow_val (fun h=> by cases h) (run_pick rfl (hd 3 _ rfl (waits_spec rfl))) ((hd 6 _ rfl (waits_spec rfl)))
             ·intro _ a w2 hB hF hd
              rw [if_pos (wanted_none rfl)]
              exact flow_move _ (.inl rfl) (by simp) (hd 7 _ rfl (waits_spec rfl))
             ·intro _ a w2 hB hF hd
              refine flow_wanted (wanted_yes rfl rfl (hd 8 _ rfl (waits_spec rfl)) rfl) ?_
              refine flow_val (fun h=> by cases h) (run_field_at (m:=0) (k:=1) rfl (hF.same 26 rfl) (by kernel_rfl)) ?_
              exact rfl
             ·intro _ a w2 hB hF hd
              refine flow_wanted (wanted_yes rfl rfl (hd 8 _ rfl (waits_spec rfl)) rfl) ?_
              exact flow_val (fun h=> by cases h) (run_load_cell rfl (hd 9 _ rfl (waits_spec rfl)) Try.underlying3 ((hB.cell (p:=⟨Bx,1,none⟩) HXB.out).trans K1.out)) rfl
             ·intro _ a w2 hB hF hd
              refine flow_wanted (wanted_yes rfl rfl (hd 8 _ rfl (waits_spec rfl)) rfl) ?_
              exact flow_move _ (.inl rfl) (by simp) (hF.same 25 rfl)
             ·intro _ a w2 hB hF hd
              refine flow_wanted (wanted_yes rfl rfl (hd 8 _ rfl (waits_spec rfl)) rfl) ?_
              exact flow_val (fun h=> by cases h) (Go.Bas.run_geq rfl (hd 10 _ rfl (waits_spec rfl)) (hd 11 _ rfl (waits_spec rfl))) (congrArg Value.bool (HGE.out))
             ·intro _ a w2 hB hF hd
              refine flow_wanted (wanted_yes rfl rfl (hd 8 _ rfl (waits_spec rfl)) rfl) ?_
              exact flow_move _ (.inl rfl) (by simp) (hd 12 _ rfl (waits_spec rfl))
             ·intro _ a w2 hB hF hd
              refine flow_wanted (wanted_yes rfl rfl (hd 13 _ rfl (waits_spec rfl)) rfl) ?_
              exact flow_val (fun h=> by cases h) (run_load_pt rfl (hF.same 10 rfl) Try.underlying90 ((hB.cell (p:=⟨bs,0,none⟩) SB2.out.lt).trans SB2.out.cell)) rfl
             ·intro _ a w2 hB hF hd
              refine flow_wanted (wanted_yes rfl rfl (hd 13 _ rfl (waits_spec rfl)) rfl) ?_
              exact flow_move _ (.inl rfl) (by simp) (hF.same 25 rfl)
             ·intro _ a w2 hB hF hd
              refine flow_wanted (wanted_yes rfl rfl (hd 13 _ rfl (waits_spec rfl)) rfl) ?_
              refine flow_call _ _ _ rfl Try.call60 _ (args2 (hd 14 _ rfl (waits_spec rfl)) (hd 15 _ rfl (waits_spec rfl))) (by simp) ((HSX.out hB).mono ?_)
              rintro e w3 ⟨rfl,hb⟩;exact ⟨_,rfl,rfl,hb⟩
             ·intro _ a w2 hB hF hd
              refine flow_wanted (wanted_yes rfl rfl (hd 13 _ rfl (waits_spec rfl)) rfl) ?_
              exact flow_val (fun h=> by cases h) (Go.Bas.run_lss rfl (hd 16 _ rfl (waits_spec rfl)) rfl) (congrArg Value.bool (HBIG.out))
             ·intro _ a w2 hB hF hd
              refine flow_wanted (wanted_yes rfl rfl (hd 13 _ rfl (waits_spec rfl)) rfl) ?_
              exact flow_move _ (.inl rfl) (by simp) (hd 17 _ rfl (waits_spec rfl))
             ·intro _ a w2 hB hF hd
              rw [if_neg (by rw [wanted_some rfl rfl (hd 18 _ rfl (waits_spec rfl))];decide)]
              exact rfl
             ·intro _ a w2 hB hF hd
              rw [if_neg (by rw [wanted_some rfl rfl (hd 18 _ rfl (waits_spec rfl))];decide)]
              exact rfl
             ·intro _ a w2 hB hF hd
              rw [if_neg (by rw [wanted_some rfl rfl (hd 18 _ rfl (waits_spec rfl))];decide)]
              exact rfl
             ·intro _ a w2 hB hF hd
              rw [if_neg (by rw [wanted_some rfl rfl (hd 18 _ rfl (waits_spec rfl))];decide)]
              exact rfl
             ·intro _ a w2 hB hF hd
              rw [if_neg (by rw [wanted_some rfl rfl (hd 18 _ rfl (waits_spec rfl))];decide)]
              exact rfl
             ·intro _ a w2 hB hF hd
              rw [if_neg (by rw [wanted_some rfl rfl (hd 18 _ rfl (waits_spec rfl))];decide)]
              exact rfl
             ·intro _ a w2 hB hF hd
              rw [if_neg (by rw [wanted_some rfl rfl (hd 18 _ rfl (waits_spec rfl))];decide)]
              exact rfl
             ·intro _ a w2 hB hF hd
              rw [if_neg (by rw [wanted_some rfl rfl (hd 18 _ rfl (waits_spec rfl))];decide)]
              exact rfl
             ·intro _ a w2 hB hF hd
              refine flow_wanted (wanted_yes rfl rfl (hd 13 _ rfl (waits_spec rfl)) rfl) ?_
              exact flow_val (fun h=> by cases h) (run_pick rfl (hd 18 _ rfl (waits_spec rfl))) (rfl)
             ·intro _ a w2 hB hF hd
              refine flow_wanted (wanted_yes rfl rfl (hd 8 _ rfl (waits_spec rfl)) rfl) ?_
              exact flow_val (fun h=> by cases h) (run_pick rfl (hd 13 _ rfl (waits_spec rfl))) ((hd 27 _ rfl (waits_spec rfl)))
             ·intro _ a w2 hB hF hd
              rw [if_pos (wanted_none rfl)]
              exact flow_val (fun h=> by cases h) (run_pick rfl (hd 8 _ rfl (waits_spec rfl))) ((hd 28 _ rfl (waits_spec rfl)))
             ·intro _ a w2 hB hF hd
              rw [if_pos (wanted_none rfl)]
              exact flow_move _ (.inl rfl) (by simp) (hd 29 _ rfl (waits_spec rfl))
             ·intro _ a w2 hB hF hd
              refine flow_wanted (wanted_yes rfl rfl (hd 30 _ rfl (waits_spec rfl)) rfl) ?_
              refine flow_val (fun h=> by cases h) (run_field_at (m:=0) (k:=0) rfl (hF.same 26 rfl) (by kernel_rfl)) ?_
              exact rfl
             ·intro _ a w2 hB hF hd
              refine flow_wanted (wanted_yes rfl rfl (hd 30 _ rfl (waits_spec rfl)) rfl) ?_
              exact flow_val (fun h=> by cases h) (run_load_cell rfl (hd 31 _ rfl (waits_spec rfl)) Try.underlying3 ((hB.cell (p:=⟨Bx,0,none⟩) HXB.out).trans K0.out)) rfl
             ·intro _ a w2 hB hF hd
              refine flow_wanted (wanted_yes rfl rfl (hd 30 _ rfl (waits_spec rfl)) rfl) ?_
              refine flow_val (fun h=> by cases h) (Go.Bas.run_eql_int rfl (hd 32 _ rfl (waits_spec rfl)) rfl) ?_
              exact rfl
             ·intro _ a w2 hB hF hd
              refine flow_wanted (wanted_yes rfl rfl (hd 30 _ rfl (waits_spec rfl)) rfl) ?_
              exact flow_move _ (.inl rfl) (by simp) (hd 33 _ rfl (waits_spec rfl))
             ·intro _ a w2 hB hF hd
              rw [if_neg (by rw [wanted_some rfl rfl (hd 34 _ rfl (waits_spec rfl))];decide)]
              exact rfl
             ·intro _ a w2 hB hF hd
              rw [if_neg (by rw [wanted_some rfl rfl (hd 34 _ rfl (waits_spec rfl))];decide)]
              exact rfl
             ·intro _ a w2 hB hF hd
              rw [if_neg (by rw [wanted_some rfl rfl (hd 34 _ rfl (waits_spec rfl))];decide)]
              exact rfl
             ·intro _ a w2 hB hF hd
              refine flow_wanted (wanted_yes rfl rfl (hd 30 _ rfl (waits_spec rfl)) rfl) ?_
              exact flow_val (fun h=> by cases h) (run_pick rfl (hd 34 _ rfl (waits_spec rfl))) (rfl)
             ·intro _ a w2 hB hF hd
              refine flow_wanted (wanted_yes rfl rfl (hd 30 _ rfl (waits_spec rfl)) rfl) ?_
              exact flow_move _ (.inl rfl) (by simp) (hd 38 _ rfl (waits_spec rfl))
             ·intro _ a w2 hB hF hd
              rw [if_neg (by rw [wanted_some rfl rfl (hd 39 _ rfl (waits_spec rfl))];decide)]
              exact rfl
             ·intro _ a w2 hB hF hd
              rw [if_neg (by rw [wanted_some rfl rfl (hd 39 _ rfl (waits_spec rfl))];decide)]
              exact rfl
             ·intro _ a w2 hB hF hd
              rw [if_neg (by rw [wanted_some rfl rfl (hd 39 _ rfl (waits_spec rfl))];decide)]
              exact rfl
             ·intro _ a w2 hB hF hd
              refine flow_wanted (wanted_yes rfl rfl (hd 30 _ rfl (waits_spec rfl)) rfl) ?_
              exact flow_val (fun h=> by cases h) (run_pick rfl (hd 39 _ rfl (waits_spec rfl))) (rfl)
             ·intro _ a w2 hB hF hd
              refine flow_wanted (wanted_yes rfl rfl (hd 30 _ rfl (waits_spec rfl)) rfl) ?_
              exact flow_move _ (.inl rfl) (by simp) (hd 43 _ rfl (waits_spec rfl))
             ·intro _ a w2 hB hF hd
              refine flow_wanted (wanted_yes rfl rfl (hd 44 _ rfl (waits_spec rfl)) rfl) ?_
              refine flow_val (fun h=> by cases h) (run_field_at (m:=0) (k:=2) rfl (hF.same 26 rfl) (by kernel_rfl)) ?_
              exact rfl
             ·intro _ a w2 hB hF hd
              refine flow_wanted (wanted_yes rfl rfl (hd 44 _ rfl (waits_spec rfl)) rfl) ?_
              exact flow_val (fun h=> by cases h) (run_load_cell rfl (hd 45 _ rfl (waits_spec rfl)) Try.underlying3 ((hB.cell (p:=⟨Bx,2,none⟩) HXB.out).trans K2.out)) rfl
             ·intro _ a w2 hB hF hd
              refine flow_wanted (wanted_yes rfl rfl (hd 44 _ rfl (waits_spec rfl)) rfl) ?_
              exact flow_move _ (.inl rfl) (by simp) (hF.same 25 rfl)
             ·intro _ a w2 hB hF hd
              refine flow_wanted (wanted_yes rfl rfl (hd 44 _ rfl (waits_spec rfl)) rfl) ?_
              exact flow_val (fun h=> by cases h) (Go.Bas.run_geq rfl (hd 46 _ rfl (waits_spec rfl)) (hd 47 _ rfl (waits_spec rfl))) (congrArg Value.bool (HGB.out))
             ·intro _ a w2 hB hF hd
              refine flow_wanted (wanted_yes rfl rfl (hd 30 _ rfl (waits_spec rfl)) rfl) ?_
              exact flow_val (fun h=> by cases h) (run_pick rfl (hd 44 _ rfl (waits_spec rfl))) ((hd 48 _ rfl (waits_spec rfl)))
            ·intro a w8 hB hF hS
             have ha:=puts_each rfl rfl hF [_,_,_,_,_,_,_,_,_,_,_,_,_,_,_,_,_,_,_,_,_,_,_,_,_,_,_,_,_,_,_,_,_,_,_,_,_,_,_,_,_,_,_,_,_,_,_,_,_,_] rfl ⟨hS 0 _ rfl (by decide),hS 1 _ rfl (by decide),hS 2 _ rfl (by decide),hS 3 _ rfl (by decide),hS 4 _ rfl (by decide),hS 5 _ rfl (by decide),hS 6 _ rfl (by decide),hS 7 _ rfl (by decide),hS 8 _ rfl (by decide),hS 9 _ rfl (by decide),hS 10 _ rfl (by decide),hS 11 _ rfl (by decide),hS 12 _ rfl (by decide),hS 13 _ rfl (by decide),hS 14 _ rfl (by decide),hS 15 _ rfl (by decide),hS 16 _ rfl (by decide),hS 17 _ rfl (by decide),hS 18 _ rfl (by decide),hS 19 _ rfl (by decide),hS 20 _ rfl (by decide),hS 21 _ rfl (by decide),hS 22 _ rfl (by decide),hS 23 _ rfl (by decide),hS 24 _ rfl (by decide),hS 25 _ rfl (by decide),hS 26 _ rfl (by decide),hS 27 _ rfl (by decide),hS 28 _ rfl (by decide),hS 29 _ rfl (by decide),hS 30 _ rfl (by decide),hS 31 _ rfl (by decide),hS 32 _ rfl (by decide),hS 33 _ rfl (by decide),hS 34 _ rfl (by decide),hS 35 _ rfl (by decide),hS 36 _ rfl (by decide),hS 37 _ rfl (by decide),hS 38 _ rfl (by decide),hS 39 _ rfl (by decide),hS 40 _ rfl (by decide),hS 41 _ rfl (by decide),hS 42 _ rfl (by decide),hS 43 _ rfl (by decide),hS 44 _ rfl (by decide),hS 45 _ rfl (by decide),hS 46 _ rfl (by decide),hS 47 _ rfl (by decide),hS 48 _ rfl (by decide),hS 49 _ rfl (by decide),trivial⟩
             simp only [puts,List.take_succ_cons,List.take_zero,Act.put,List.setIfInBounds_toArray,List.set_cons_succ,List.set_cons_zero] at ha
             subst ha
             change tl _ _ _ (_:: []) _ _
             clear hS hF
             refine tl_val (v:=.bool false) rfl (run_pick_f rfl rfl rfl) (tl_nil ?_)
             have HB8:=Lib.hid hB
             clear hB
             simp only [Act.put,List.setIfInBounds_toArray,List.set_cons_succ,List.set_cons_zero]
             gi_wp2_with (fail)
             exact HFIN.out HB8.out
           ·skip
            refine region_tail_in (n:=225) (by kernel_rfl) 50 (by decide) (by kernel_rfl) (by kernel_rfl) (by kernel_rfl) (by kernel_rfl) rfl
             (fun ii vv _=> (match ii with | 0 | 4 | 31 | 35=> vv=.pointer (some ⟨Bx,0,none⟩) | 1 | 5 | 32 | 36=> vv=.int .i64 (5) | 2 | 3 | 6 | 7 | 8 | 37 | 38 | 39 | 43 | 44=> vv=.bool true | 9=> vv=.pointer (some ⟨Bx,1,none⟩) | 10=> vv=.int .i64 ((n1:Int)) | 11 | 15 | 47=> vv=.int .i64 ((x:Int)) | 12 | 13 | 17 | 18 | 27 | 28 | 29 | 30 | 33 | 34 | 48 | 49=> vv=.bool false | 14=> vv=.pointer (some ⟨p,0,none⟩) | 16=> vv=.int .i64 (SX) | 19 | 20 | 21 | 22 | 23 | 24 | 25 | 26 | 40 | 41 | 42=> vv=undef | 45=> vv=.pointer (some ⟨Bx,2,none⟩) | 46=> vv=.int .i64 ((n2:Int)) | _=> True))
             (fun _ _ _ _ h _=> h) ?_ ?_
            ·refine Each.all ?_
             refine ⟨?_,?_,?_,?_,?_,?_,?_,?_,?_,?_,?_,?_,?_,?_,?_,?_,?_,?_,?_,?_,?_,?_,?_,?_,?_,?_,?_,?_,?_,?_,?_,?_,?_,?_,?_,?_,?_,?_,?_,?_,?_,?_,?_,?_,?_,?_,?_,?_,?_,?_,(fun h=> absurd h (by decide)),trivial⟩
             ·intro _ a w2 hB hF hd
              rw [if_pos (wanted_none rfl)]
              refine flow_val (fun h=> by cases h) (run_field_at (m:=0) (k:=0) rfl (hF.same 26 rfl) (by kernel_rfl)) ?_
              exact rfl
             ·intro _ a w2 hB hF hd
              rw [if_pos (wanted_none rfl)]
              exact flow_val (fun h=> by cases h) (run_load_cell rfl (hd 0 _ rfl (waits_spec rfl)) Try.underlying3 ((hB.cell (p:=⟨Bx,0,none⟩) HXB.out).trans K0.out)) rfl
             ·intro _ a w2 hB hF hd
              rw [if_pos (wanted_none rfl)]
              exact flow_val (fun h=> by cases h) (Go.Bas.run_neq_int rfl (hd 1 _ rfl (waits_spec rfl)) rfl) (congrArg Value.bool (rfl))
             ·intro _ a w2 hB hF hd
              rw [if_pos (wanted_none rfl)]
              exact flow_move _ (.inl rfl) (by simp) (hd 2 _ rfl (waits_spec rfl))
             ·intro _ a w2 hB hF hd
              refine flow_wanted (wanted_yes rfl rfl (hd 3 _ rfl (waits_spec rfl)) rfl) ?_
              refine flow_val (fun h=> by cases h) (run_field_at (m:=0) (k:=0) rfl (hF.same 26 rfl) (by kernel_rfl)) ?_
              exact rfl
             ·intro _ a w2 hB hF hd
              refine flow_wanted (wanted_yes rfl rfl (hd 3 _ rfl (waits_spec rfl)) rfl) ?_
              exact flow_val (fun h=> by cases h) (run_load_cell rfl (hd 4 _ rfl (waits_spec rfl)) Try.underlying3 ((hB.cell (p:=⟨Bx,0,none⟩) HXB.out).trans K0.out)) rfl
             ·intro _ a w2 hB hF hd
              refine flow_wanted (wanted_yes rfl rfl (hd 3 _ rfl (waits_spec rfl)) rfl) ?_
              exact flow_val (fun h=> by cases h) (Go.Bas.run_neq_int rfl (hd 5 _ rfl (waits_spec rfl)) rfl) (congrArg Value.bool (rfl))
             ·intro _ a w2 hB hF hd
              rw [if_pos (wanted_none rfl)]
              exact flow_val (fun h=> by cases h) (run_pick rfl (hd 3 _ rfl (waits_spec rfl))) ((hd 6 _ rfl (waits_spec rfl)))
             ·intro _ a w2 hB hF hd
              rw [if_pos (wanted_none rfl)]
              exact flow_move _ (.inl rfl) (by simp) (hd 7 _ rfl (waits_spec rfl))
             ·intro _ a w2 hB hF hd
              refine flow_wanted (wanted_yes rfl rfl (hd 8 _ rfl (waits_spec rfl)) rfl) ?_
              refine flow_val (fun h=> by cases h) (run_field_at (m:=0) (k:=1) rfl (hF.same 26 rfl) (by kernel_rfl)) ?_
              exact rfl
             ·intro _ a w2 hB hF hd
              refine flow_wanted (wanted_yes rfl rfl (hd 8 _ rfl (waits_spec rfl)) rfl) ?_
              exact flow_val (fun h=> by cases h) (run_load_cell rfl (hd 9 _ rfl (waits_spec rfl)) Try.underlying3 ((hB.cell (p:=⟨Bx,1,none⟩) HXB.out).trans K1.out)) rfl
             ·intro _ a w2 hB hF hd
              refine flow_wanted (wanted_yes rfl rfl (hd 8 _ rfl (waits_spec rfl)) rfl) ?_
              exact flow_move _ (.inl rfl) (by simp) (hF.same 25 rfl)
             ·intro _ a w2 hB hF hd
              refine flow_wanted (wanted_yes rfl rfl (hd 8 _ rfl (waits_spec rfl)) rfl) ?_
              exact flow_val (fun h=> by cases h) (Go.Bas.run_geq rfl (hd 10 _ rfl (waits_spec rfl)) (hd 11 _ rfl (waits_spec rfl))) (congrArg Value.bool (HGE.out))
             ·intro _ a w2 hB hF hd
              refine flow_wanted (wanted_yes rfl rfl (hd 8 _ rfl (waits_spec rfl)) rfl) ?_
              exact flow_move _ (.inl rfl) (by simp) (hd 12 _ rfl (waits_spec rfl))
             ·intro _ a w2 hB hF hd
              refine flow_wanted (wanted_yes rfl rfl (hd 13 _ rfl (waits_spec rfl)) rfl) ?_
              exact flow_val (fun h=> by cases h) (run_load_pt rfl (hF.same 10 rfl) Try.underlying90 ((hB.cell (p:=⟨bs,0,none⟩) SB2.out.lt).trans SB2.out.cell)) rfl
             ·intro _ a w2 hB hF hd
              refine flow_wanted (wanted_yes rfl rfl (hd 13 _ rfl (waits_spec rfl)) rfl) ?_
              exact flow_move _ (.inl rfl) (by simp) (hF.same 25 rfl)
             ·intro _ a w2 hB hF hd
              refine flow_wanted (wanted_yes rfl rfl (hd 13 _ rfl (waits_spec rfl)) rfl) ?_
              refine flow_call _ _ _ rfl Try.call60 _ (args2 (hd 14 _ rfl (waits_spec rfl)) (hd 15 _ rfl (waits_spec rfl))) (by simp) ((HSX.out hB).mono ?_)
              rintro e w3 ⟨rfl,hb⟩;exact ⟨_,rfl,rfl,hb⟩
             ·intro _ a w2 hB hF hd
              refine flow_wanted (wanted_yes rfl rfl (hd 13 _ rfl (waits_spec rfl)) rfl) ?_
              exact flow_val (fun h=> by cases h) (Go.Bas.run_lss rfl (hd 16 _ rfl (waits_spec rfl)) rfl) (congrArg Value.bool (HBIG.out))
             ·intro _ a w2 hB hF hd
              refine flow_wanted (wanted_yes rfl rfl (hd 13 _ rfl (waits_spec rfl)) rfl) ?_
              exact flow_move _ (.inl rfl) (by simp) (hd 17 _ rfl (waits_spec rfl))
             ·intro _ a w2 hB hF hd
              rw [if_neg (by rw [wanted_some rfl rfl (hd 18 _ rfl (waits_spec rfl))];decide)]
              exact rfl
             ·intro _ a w2 hB hF hd
              rw [if_neg (by rw [wanted_some rfl rfl (hd 18 _ rfl (waits_spec rfl))];decide)]
              exact rfl
             ·intro _ a w2 hB hF hd
              rw [if_neg (by rw [wanted_some rfl rfl (hd 18 _ rfl (waits_spec rfl))];decide)]
              exact rfl
             ·intro _ a w2 hB hF hd
              rw [if_neg (by rw [wanted_some rfl rfl (hd 18 _ rfl (waits_spec rfl))];decide)]
              exact rfl
             ·intro _ a w2 hB hF hd
              rw [if_neg (by rw [wanted_some rfl rfl (hd 18 _ rfl (waits_spec rfl))];decide)]
              exact rfl
             ·intro _ a w2 hB hF hd
              rw [if_neg (by rw [wanted_some rfl rfl (hd 18 _ rfl (waits_spec rfl))];decide)]
              exact rfl
             ·intro _ a w2 hB hF hd
              rw [if_neg (by rw [wanted_some rfl rfl (hd 18 _ rfl (waits_spec rfl))];decide)]
              exact rfl
             ·intro _ a w2 hB hF hd
              rw [if_neg (by rw [wanted_some rfl rfl (hd 18 _ rfl (waits_spec rfl))];decide)]
              exact rfl
             ·intro _ a w2 hB hF hd
              refine flow_wanted (wanted_yes rfl rfl (hd 13 _ rfl (waits_spec rfl)) rfl) ?_
              exact flow_val (fun h=> by cases h) (run_pick rfl (hd 18 _ rfl (waits_spec rfl))) (rfl)
             ·intro _ a w2 hB hF hd
              refine flow_wanted (wanted_yes rfl rfl (hd 8 _ rfl (waits_spec rfl)) rfl) ?_
              exact flow_val (fun h=> by cases h) (run_pick rfl (hd 13 _ rfl (waits_spec rfl))) ((hd 27 _ rfl (waits_spec rfl)))
             ·intro _ a w2 hB hF hd
              rw [if_pos (wanted_none rfl)]
              exact flow_val (fun h=> by cases h) (run_pick rfl (hd 8 _ rfl (waits_spec rfl))) ((hd 28 _ rfl (waits_spec rfl)))
             ·intro _ a w2 hB hF hd
              rw [if_pos (wanted_none rfl)]
              exact flow_move _ (.inl rfl) (by simp) (hd 29 _ rfl (waits_spec rfl))
             ·intro _ a w2 hB hF hd
              refine flow_wanted (wanted_yes rfl rfl (hd 30 _ rfl (waits_spec rfl)) rfl) ?_
              refine flow_val (fun h=> by cases h) (run_field_at (m:=0) (k:=0) rfl (hF.same 26 rfl) (by kernel_rfl)) ?_
              exact rfl
             ·intro _ a w2 hB hF hd
              refine flow_wanted (wanted_yes rfl rfl (hd 30 _ rfl (waits_spec rfl)) rfl) ?_
              exact flow_val (fun h=> by cases h) (run_load_cell rfl (hd 31 _ rfl (waits_spec rfl)) Try.underlying3 ((hB.cell (p:=⟨Bx,0,none⟩) HXB.out).trans K0.out)) rfl
             ·intro _ a w2 hB hF hd
              refine flow_wanted (wanted_yes rfl rfl (hd 30 _ rfl (waits_spec rfl)) rfl) ?_
              refine flow_val (fun h=> by cases h) (Go.Bas.run_eql_int rfl (hd 32 _ rfl (waits_spec rfl)) rfl) ?_
              exact rfl
             ·intro _ a w2 hB hF hd
              refine flow_wanted (wanted_yes rfl rfl (hd 30 _ rfl (waits_spec rfl)) rfl) ?_
              exact flow_move _ (.inl rfl) (by simp) (hd 33 _ rfl (waits_spec rfl))
             ·intro _ a w2 hB hF hd
              refine flow_wanted (wanted_yes rfl rfl (hd 34 _ rfl (waits_spec rfl)) rfl) ?_
              refine flow_val (fun h=> by cases h) (run_field_at (m:=0) (k:=0) rfl (hF.same 26 rfl) (by kernel_rfl)) ?_
              exact rfl
             ·intro _ a w2 hB hF hd
              refine flow_wanted (wanted_yes rfl rfl (hd 34 _ rfl (waits_spec rfl)) rfl) ?_
              exact flow_val (fun h=> by cases h) (run_load_cell rfl (hd 35 _ rfl (waits_spec rfl)) Try.underlying3 ((hB.cell (p:=⟨Bx,0,none⟩) HXB.out).trans K0.out)) rfl
             ·intro _ a w2 hB hF hd
              refine flow_wanted (wanted_yes rfl rfl (hd 34 _ rfl (waits_spec rfl)) rfl) ?_
              refine flow_val (fun h=> by cases h) (Go.Bas.run_eql_int rfl (hd 36 _ rfl (waits_spec rfl)) rfl) ?_
              exact rfl
             ·intro _ a w2 hB hF hd
              refine flow_wanted (wanted_yes rfl rfl (hd 30 _ rfl (waits_spec rfl)) rfl) ?_
              exact flow_val (fun h=> by cases h) (run_pick rfl (hd 34 _ rfl (waits_spec rfl))) ((hd 37 _ rfl (waits_spec rfl)))
             ·intro _ a w2 hB hF hd
              refine flow_wanted (wanted_yes rfl rfl (hd 30 _ rfl (waits_spec rfl)) rfl) ?_
              exact flow_move _ (.inl rfl) (by simp) (hd 38 _ rfl (waits_spec rfl))
             ·intro _ a w2 hB hF hd
              rw [if_neg (by rw [wanted_some rfl rfl (hd 39 _ rfl (waits_spec rfl))];decide)]
              exact rfl
             ·intro _ a w2 hB hF hd
              rw [if_neg (by rw [wanted_some rfl rfl (hd 39 _ rfl (waits_spec rfl))];decide)]
              exact rfl
             ·intro _ a w2 hB hF hd
              rw [if_neg (by rw [wanted_some rfl rfl (hd 39 _ rfl (waits_spec rfl))];decide)]
              exact rfl
             ·intro _ a w2 hB hF hd
              refine flow_wanted (wanted_yes rfl rfl (hd 30 _ rfl (waits_spec rfl)) rfl) ?_
              exact flow_val (fun h=> by cases h) (run_pick rfl (hd 39 _ rfl (waits_spec rfl))) (rfl)
             ·intro _ a w2 hB hF hd
              refine flow_wanted (wanted_yes rfl rfl (hd 30 _ rfl (waits_spec rfl)) rfl) ?_
              exact flow_move _ (.inl rfl) (by simp) (hd 43 _ rfl (waits_spec rfl))
             ·intro _ a w2 hB hF hd
              refine flow_wanted (wanted_yes rfl rfl (hd 44 _ rfl (waits_spec rfl)) rfl) ?_
              refine flow_val (fun h=> by cases h) (run_field_at (m:=0) (k:=2) rfl (hF.same 26 rfl) (by kernel_rfl)) ?_
              exact rfl
             ·intro _ a w2 hB hF hd
              refine flow_wanted (wanted_yes rfl rfl (hd 44 _ rfl (waits_spec rfl)) rfl) ?_
              exact flow_val (fun h=> by cases h) (run_load_cell rfl (hd 45 _ rfl (waits_spec rfl)) Try.underlying3 ((hB.cell (p:=⟨Bx,2,none⟩) HXB.out).trans K2.out)) rfl
             ·intro _ a w2 hB hF hd
              refine flow_wanted (wanted_yes rfl rfl (hd 44 _ rfl (waits_spec rfl)) rfl) ?_
              exact flow_move _ (.inl rfl) (by simp) (hF.same 25 rfl)
             ·intro _ a w2 hB hF hd
              refine flow_wanted (wanted_yes rfl rfl (hd 44 _ rfl (waits_spec rfl)) rfl) ?_
              exact flow_val (fun h=> by cases h) (Go.Bas.run_geq rfl (hd 46 _ rfl (waits_spec rfl)) (hd 47 _ rfl (waits_spec rfl))) (congrArg Value.bool (HGB.out))
             ·intro _ a w2 hB hF hd
              refine flow_wanted (wanted_yes rfl rfl (hd 30 _ rfl (waits_spec rfl)) rfl) ?_
              exact flow_val (fun h=> by cases h) (run_pick rfl (hd 44 _ rfl (waits_spec rfl))) ((hd 48 _ rfl (waits_spec rfl)))
            ·intro a w8 hB hF hS
             have ha:=puts_each rfl rfl hF [_,_,_,_,_,_,_,_,_,_,_,_,_,_,_,_,_,_,_,_,_,_,_,_,_,_,_,_,_,_,_,_,_,_,_,_,_,_,_,_,_,_,_,_,_,_,_,_,_,_] rfl ⟨hS 0 _ rfl (by decide),hS 1 _ rfl (by decide),hS 2 _ rfl (by decide),hS 3 _ rfl (by decide),hS 4 _ rfl (by decide),hS 5 _ rfl (by decide),hS 6 _ rfl (by decide),hS 7 _ rfl (by decide),hS 8 _ rfl (by decide),hS 9 _ rfl (by decide),hS 10 _ rfl (by decide),hS 11 _ rfl (by decide),hS 12 _ rfl (by decide),hS 13 _ rfl (by decide),hS 14 _ rfl (by decide),hS 15 _ rfl (by decide),hS 16 _ rfl (by decide),hS 17 _ rfl (by decide),hS 18 _ rfl (by decide),hS 19 _ rfl (by decide),hS 20 _ rfl (by decide),hS 21 _ rfl (by decide),hS 22 _ rfl (by decide),hS 23 _ rfl (by decide),hS 24 _ rfl (by decide),hS 25 _ rfl (by decide),hS 26 _ rfl (by decide),hS 27 _ rfl (by decide),hS 28 _ rfl (by decide),hS 29 _ rfl (by decide),hS 30 _ rfl (by decide),hS 31 _ rfl (by decide),hS 32 _ rfl (by decide),hS 33 _ rfl (by decide),hS 34 _ rfl (by decide),hS 35 _ rfl (by decide),hS 36 _ rfl (by decide),hS 37 _ rfl (by decide),hS 38 _ rfl (by decide),hS 39 _ rfl (by decide),hS 40 _ rfl (by decide),hS 41 _ rfl (by decide),hS 42 _ rfl (by decide),hS 43 _ rfl (by decide),hS 44 _ rfl (by decide),hS 45 _ rfl (by decide),hS 46 _ rfl (by decide),hS 47 _ rfl (by decide),hS 48 _ rfl (by decide),hS 49 _ rfl (by decide),trivial⟩
             simp only [puts,List.take_succ_cons,List.take_zero,Act.put,List.setIfInBounds_toArray,List.set_cons_succ,List.set_cons_zero] at ha
             subst ha
             change tl _ _ _ (_:: []) _ _
             clear hS hF
             refine tl_val (v:=.bool false) rfl (run_pick_f rfl rfl rfl) (tl_nil ?_)
             have HB8:=Lib.hid hB
             clear hB
             simp only [Act.put,List.setIfInBounds_toArray,List.set_cons_succ,List.set_cons_zero]
             gi_wp2_with (fail)
             exact HFIN.out HB8.out
           ·skip
            refine region_tail_in (n:=225) (by kernel_rfl) 50 (by decide) (by kernel_rfl) (by kernel_rfl) (by kernel_rfl) (by kernel_rfl) rfl
             (fun ii vv _=> (match ii with | 0 | 4 | 31 | 35 | 40=> vv=.pointer (some ⟨Bx,0,none⟩) | 1 | 5 | 32 | 36 | 41=> vv=.int .i64 (8) | 2 | 3 | 6 | 7 | 8 | 42 | 43 | 44=> vv=.bool true | 9=> vv=.pointer (some ⟨Bx,1,none⟩) | 10=> vv=.int .i64 ((n1:Int)) | 11 | 15 | 47=> vv=.int .i64 ((x:Int)) | 12 | 13 | 17 | 18 | 27 | 28 | 29 | 30 | 33 | 34 | 37 | 38 | 39 | 48 | 49=> vv=.bool false | 14=> vv=.pointer (some ⟨p,0,none⟩) | 16=> vv=.int .i64 (SX) | 19 | 20 | 21 | 22 | 23 | 24 | 25 | 26=> vv=undef | 45=> vv=.pointer (some ⟨Bx,2,none⟩) | 46=> vv=.int .i64 ((n2:Int)) | _=> True))
             (fun _ _ _ _ h _=> h) ?_ ?_
            ·refine Each.all ?_
             refine ⟨?_,?_,?_,?_,?_,?_,?_,?_,?_,?_,?_,?_,?_,?_,?_,?_,?_,?_,?_,?_,?_,?_,?_,?_,?_,?_,?_,?_,?_,?_,?_,?_,?_,?_,?_,?_,?_,?_,?_,?_,?_,?_,?_,?_,?_,?_,?_,?_,?_,?_,(fun h=> absurd h (by decide)),trivial⟩
             ·intro _ a w2 hB hF hd
              rw [if_pos (wanted_none rfl)]
              refine flow_val (fun h=> by cases h) (run_field_at (m:=0) (k:=0) rfl (hF.same 26 rfl) (by kernel_rfl)) ?_
              exact rfl
             ·intro _ a w2 hB hF hd
              rw [if_pos (wanted_none rfl)]
              exact flow_val (fun h=> by cases h) (run_load_cell rfl (hd 0 _ rfl (waits_spec rfl)) Try.underlying3 ((hB.cell (p:=⟨Bx,0,none⟩) HXB.out).trans K0.out)) rfl
             ·intro _ a w2 hB hF hd
              rw [if_pos (wanted_none rfl)]
              exact flow_val (fun h=> by cases h) (Go.Bas.run_neq_int rfl (hd 1 _ rfl (waits_spec rfl)) rfl) (congrArg Value.bool (rfl))
             ·intro _ a w2 hB hF hd
              rw [if_pos (wanted_none rfl)]
              exact flow_move _ (.inl rfl) (by simp) (hd 2 _ rfl (waits_spec rfl))
             ·intro _ a w2 hB hF hd
              refine flow_wanted (wanted_yes rfl rfl (hd 3 _ rfl (waits_spec rfl)) rfl) ?_
              refine flow_val (fun h=> by cases h) (run_field_at (m:=0) (k:=0) rfl (hF.same 26 rfl) (by kernel_rfl)) ?_
              exact rfl
             ·intro _ a w2 hB hF hd
              refine flow_wanted (wanted_yes rfl rfl (hd 3 _ rfl (waits_spec rfl)) rfl) ?_
              exact flow_val (fun h=> by cases h) (run_load_cell rfl (hd 4 _ rfl (waits_spec rfl)) Try.underlying3 ((hB.cell (p:=⟨Bx,0,none⟩) HXB.out).trans K0.out)) rfl
             ·intro _ a w2 hB hF hd
              refine flow_wanted (wanted_yes rfl rfl (hd 3 _ rfl (waits_spec rfl)) rfl) ?_
              exact flow_val (fun h=> by cases h) (Go.Bas.run_neq_int rfl (hd 5 _ rfl (waits_spec rfl)) rfl) (congrArg Value.bool (rfl))
             ·intro _ a w2 hB hF hd
              rw [if_pos (wanted_none rfl)]
              exact flow_val (fun h=> by cases h) (run_pick rfl (hd 3 _ rfl (waits_spec rfl))) ((hd 6 _ rfl (waits_spec rfl)))
             ·intro _ a w2 hB hF hd
              rw [if_pos (wanted_none rfl)]
              exact flow_move _ (.inl rfl) (by simp) (hd 7 _ rfl (waits_spec rfl))
             ·intro _ a w2 hB hF hd
              refine flow_wanted (wanted_yes rfl rfl (hd 8 _ rfl (waits_spec rfl)) rfl) ?_
              refine flow_val (fun h=> by cases h) (run_field_at (m:=0) (k:=1) rfl (hF.same 26 rfl) (by kernel_rfl)) ?_
              exact rfl
             ·intro _ a w2 hB hF hd
              refine flow_wanted (wanted_yes rfl rfl (hd 8 _ rfl (waits_spec rfl)) rfl) ?_
              exact flow_val (fun h=> by cases h) (run_load_cell rfl (hd 9 _ rfl (waits_spec rfl)) Try.underlying3 ((hB.cell (p:=⟨Bx,1,none⟩) HXB.out).trans K1.out)) rfl
             ·intro _ a w2 hB hF hd
              refine flow_wanted (wanted_yes rfl rfl (hd 8 _ rfl (waits_spec rfl)) rfl) ?_
              exact flow_move _ (.inl rfl) (by simp) (hF.same 25 rfl)
             ·intro _ a w2 hB hF hd
              refine flow_wanted (wanted_yes rfl rfl (hd 8 _ rfl (waits_spec rfl)) rfl) ?_
              exact flow_val (fun h=> by cases h) (Go.Bas.run_geq rfl (hd 10 _ rfl (waits_spec rfl)) (hd 11 _ rfl (waits_spec rfl))) (congrArg Value.bool (HGE.out))
             ·intro _ a w2 hB hF hd
              refine flow_wanted (wanted_yes rfl rfl (hd 8 _ rfl (waits_spec rfl)) rfl) ?_
              exact flow_move _ (.inl rfl) (by simp) (hd 12 _ rfl (waits_spec rfl))
             ·intro _ a w2 hB hF hd
              refine flow_wanted (wanted_yes rfl rfl (hd 13 _ rfl (waits_spec rfl)) rfl) ?_
              exact flow_val (fun h=> by cases h) (run_load_pt rfl (hF.same 10 rfl) Try.underlying90 ((hB.cell (p:=⟨bs,0,none⟩) SB2.out.lt).trans SB2.out.cell)) rfl
             ·intro _ a w2 hB hF hd
              refine flow_wanted (wanted_yes rfl rfl (hd 13 _ rfl (waits_spec rfl)) rfl) ?_
              exact flow_move _ (.inl rfl) (by simp) (hF.same 25 rfl)
             ·intro _ a w2 hB hF hd
              refine flow_wanted (wanted_yes rfl rfl (hd 13 _ rfl (waits_spec rfl)) rfl) ?_
              refine flow_call _ _ _ rfl Try.call60 _ (args2 (hd 14 _ rfl (waits_spec rfl)) (hd 15 _ rfl (waits_spec rfl))) (by simp) ((HSX.out hB).mono ?_)
              rintro e w3 ⟨rfl,hb⟩;exact ⟨_,rfl,rfl,hb⟩
             ·intro _ a w2 hB hF hd
              refine flow_wanted (wanted_yes rfl rfl (hd 13 _ rfl (waits_spec rfl)) rfl) ?_
              exact flow_val (fun h=> by cases h) (Go.Bas.run_lss rfl (hd 16 _ rfl (waits_spec rfl)) rfl) (congrArg Value.bool (HBIG.out))
             ·intro _ a w2 hB hF hd
              refine flow_wanted (wanted_yes rfl rfl (hd 13 _ rfl (waits_spec rfl)) rfl) ?_
              exact flow_move _ (.inl rfl) (by simp) (hd 17 _ rfl (waits_spec rfl))
             ·intro _ a w2 hB hF hd
              rw [if_neg (by rw [wanted_some rfl rfl (hd 18 _ rfl (waits_spec rfl))];decide)]
              exact rfl
             ·intro _ a w2 hB hF hd
              rw [if_neg (by rw [wanted_some rfl rfl (hd 18 _ rfl (waits_spec rfl))];decide)]
              exact rfl
             ·intro _ a w2 hB hF hd
              rw [if_neg (by rw [wanted_some rfl rfl (hd 18 _ rfl (waits_spec rfl))];decide)]
              exact rfl
             ·intro _ a w2 hB hF hd
              rw [if_neg (by rw [wanted_some rfl rfl (hd 18 _ rfl (waits_spec rfl))];decide)]
              exact rfl
             ·intro _ a w2 hB hF hd
              rw [if_neg (by rw [wanted_some rfl rfl (hd 18 _ rfl (waits_spec rfl))];decide)]
              exact rfl
             ·intro _ a w2 hB hF hd
              rw [if_neg (by rw [wanted_some rfl rfl (hd 18 _ rfl (waits_spec rfl))];decide)]
              exact rfl
             ·intro _ a w2 hB hF hd
              rw [if_neg (by rw [wanted_some rfl rfl (hd 18 _ rfl (waits_spec rfl))];decide)]
              exact rfl
             ·intro _ a w2 hB hF hd
              rw [if_neg (by rw [wanted_some rfl rfl (hd 18 _ rfl (waits_spec rfl))];decide)]
              exact rfl
             ·intro _ a w2 hB hF hd
              refine flow_wanted (wanted_yes rfl rfl (hd 13 _ rfl (waits_spec rfl)) rfl) ?_
              exact flow_val (fun h=> by cases h) (run_pick rfl (hd 18 _ rfl (waits_spec rfl))) (rfl)
             ·intro _ a w2 hB hF hd
              refine flow_wanted (wanted_yes rfl rfl (hd 8 _ rfl (waits_spec rfl)) rfl) ?_
              exact flow_val (fun h=> by cases h) (run_pick rfl (hd 13 _ rfl (waits_spec rfl))) ((hd 27 _ rfl (waits_spec rfl)))
             ·intro _ a w2 hB hF hd
              rw [if_pos (wanted_none rfl)]
              exact flow_val (fun h=> by cases h) (run_pick rfl (hd 8 _ rfl (waits_spec rfl))) ((hd 28 _ rfl (waits_spec rfl)))
             ·intro _ a w2 hB hF hd
              rw [if_pos (wanted_none rfl)]
              exact flow_move _ (.inl rfl) (by simp) (hd 29 _ rfl (waits_spec rfl))
             ·intro _ a w2 hB hF hd
              refine flow_wanted (wanted_yes rfl rfl (hd 30 _ rfl (waits_spec rfl)) rfl) ?_
              refine flow_val (fun h=> by cases h) (run_field_at (m:=0) (k:=0) rfl (hF.same 26 rfl) (by kernel_rfl)) ?_
              exact rfl
             ·intro _ a w2 hB hF hd
              refine flow_wanted (wanted_yes rfl rfl (hd 30 _ rfl (waits_spec rfl)) rfl) ?_
              exact flow_val (fun h=> by cases h) (run_load_cell rfl (hd 31 _ rfl (waits_spec rfl)) Try.underlying3 ((hB.cell (p:=⟨Bx,0,none⟩) HXB.out).trans K0.out)) rfl
             ·intro _ a w2 hB hF hd
              refine flow_wanted (wanted_yes rfl rfl (hd 30 _ rfl (waits_spec rfl)) rfl) ?_
              refine flow_val (fun h=> by cases h) (Go.Bas.run_eql_int rfl (hd 32 _ rfl (waits_spec rfl)) rfl) ?_
              exact rfl
             ·intro _ a w2 hB hF hd
              refine flow_wanted (wanted_yes rfl rfl (hd 30 _ rfl (waits_spec rfl)) rfl) ?_
              exact flow_move _ (.inl rfl) (by simp) (hd 33 _ rfl (waits_spec rfl))
             ·intro _ a w2 hB hF hd
              refine flow_wanted (wanted_yes rfl rfl (hd 34 _ rfl (waits_spec rfl)) rfl) ?_
              refine flow_val (fun h=> by cases h) (run_field_at (m:=0) (k:=0) rfl (hF.same 26 rfl) (by kernel_rfl)) ?_
              exact rfl
             ·intro _ a w2 hB hF hd
              refine flow_wanted (wanted_yes rfl rfl (hd 34 _ rfl (waits_spec rfl)) rfl) ?_
              exact flow_val (fun h=> by cases h) (run_load_cell rfl (hd 35 _ rfl (waits_spec rfl)) Try.underlying3 ((hB.cell (p:=⟨Bx,0,none⟩) HXB.out).trans K0.out)) rfl
             ·intro _ a w2 hB hF hd
              refine flow_wanted (wanted_yes rfl rfl (hd 34 _ rfl (waits_spec rfl)) rfl) ?_
              refine flow_val (fun h=> by cases h) (Go.Bas.run_eql_int rfl (hd 36 _ rfl (waits_spec rfl)) rfl) ?_
              exact rfl
             ·intro _ a w2 hB hF hd
              refine flow_wanted (wanted_yes rfl rfl (hd 30 _ rfl (waits_spec rfl)) rfl) ?_
              exact flow_val (fun h=> by cases h) (run_pick rfl (hd 34 _ rfl (waits_spec rfl))) ((hd 37 _ rfl (waits_spec rfl)))
             ·intro _ a w2 hB hF hd
              refine flow_wanted (wanted_yes rfl rfl (hd 30 _ rfl (waits_spec rfl)) rfl) ?_
              exact flow_move _ (.inl rfl) (by simp) (hd 38 _ rfl (waits_spec rfl))
             ·intro _ a w2 hB hF hd
              refine flow_wanted (wanted_yes rfl rfl (hd 39 _ rfl (waits_spec rfl)) rfl) ?_
              refine flow_val (fun h=> by cases h) (run_field_at (m:=0) (k:=0) rfl (hF.same 26 rfl) (by kernel_rfl)) ?_
              exact rfl
             ·intro _ a w2 hB hF hd
              refine flow_wanted (wanted_yes rfl rfl (hd 39 _ rfl (waits_spec rfl)) rfl) ?_
              exact flow_val (fun h=> by cases h) (run_load_cell rfl (hd 40 _ rfl (waits_spec rfl)) Try.underlying3 ((hB.cell (p:=⟨Bx,0,none⟩) HXB.out).trans K0.out)) rfl
             ·intro _ a w2 hB hF hd
              refine flow_wanted (wanted_yes rfl rfl (hd 39 _ rfl (waits_spec rfl)) rfl) ?_
              refine flow_val (fun h=> by cases h) (Go.Bas.run_eql_int rfl (hd 41 _ rfl (waits_spec rfl)) rfl) ?_
              exact rfl
             ·intro _ a w2 hB hF hd
              refine flow_wanted (wanted_yes rfl rfl (hd 30 _ rfl (waits_spec rfl)) rfl) ?_
              exact flow_val (fun h=> by cases h) (run_pick rfl (hd 39 _ rfl (waits_spec rfl))) ((hd 42 _ rfl (waits_spec rfl)))
             ·intro _ a w2 hB hF hd
              refine flow_wanted (wanted_yes rfl rfl (hd 30 _ rfl (waits_spec rfl)) rfl) ?_
              exact flow_move _ (.inl rfl) (by simp) (hd 43 _ rfl (waits_spec rfl))
             ·intro _ a w2 hB hF hd
              refine flow_wanted (wanted_yes rfl rfl (hd 44 _ rfl (waits_spec rfl)) rfl) ?_
              refine flow_val (fun h=> by cases h) (run_field_at (m:=0) (k:=2) rfl (hF.same 26 rfl) (by kernel_rfl)) ?_
              exact rfl
             ·intro _ a w2 hB hF hd
              refine flow_wanted (wanted_yes rfl rfl (hd 44 _ rfl (waits_spec rfl)) rfl) ?_
              exact flow_val (fun h=> by cases h) (run_load_cell rfl (hd 45 _ rfl (waits_spec rfl)) Try.underlying3 ((hB.cell (p:=⟨Bx,2,none⟩) HXB.out).trans K2.out)) rfl
             ·intro _ a w2 hB hF hd
              refine flow_wanted (wanted_yes rfl rfl (hd 44 _ rfl (waits_spec rfl)) rfl) ?_
              exact flow_move _ (.inl rfl) (by simp) (hF.same 25 rfl)
             ·intro _ a w2 hB hF hd
              refine flow_wanted (wanted_yes rfl rfl (hd 44 _ rfl (waits_spec rfl)) rfl) ?_
              exact flow_val (fun h=> by cases h) (Go.Bas.run_geq rfl (hd 46 _ rfl (waits_spec rfl)) (hd 47 _ rfl (waits_spec rfl))) (congrArg Value.bool (HGB.out))
             ·intro _ a w2 hB hF hd
              refine flow_wanted (wanted_yes rfl rfl (hd 30 _ rfl (waits_spec rfl)) rfl) ?_
              exact flow_val (fun h=> by cases h) (run_pick rfl (hd 44 _ rfl (waits_spec rfl))) ((hd 48 _ rfl (waits_spec rfl)))
            ·intro a w8 hB hF hS
             have ha:=puts_each rfl rfl hF [_,_,_,_,_,_,_,_,_,_,_,_,_,_,_,_,_,_,_,_,_,_,_,_,_,_,_,_,_,_,_,_,_,_,_,_,_,_,_,_,_,_,_,_,_,_,_,_,_,_] rfl ⟨hS 0 _ rfl (by decide),hS 1 _ rfl (by decide),hS 2 _ rfl (by decide),hS 3 _ rfl (by decide),hS 4 _ rfl (by decide),hS 5 _ rfl (by decide),hS 6 _ rfl (by decide),hS 7 _ rfl (by decide),hS 8 _ rfl (by decide),hS 9 _ rfl (by decide),hS 10 _ rfl (by decide),hS 11 _ rfl (by decide),hS 12 _ rfl (by decide),hS 13 _ rfl (by decide),hS 14 _ rfl (by decide),hS 15 _ rfl (by decide),hS 16 _ rfl (by decide),hS 17 _ rfl (by decide),hS 18 _ rfl (by decide),hS 19 _ rfl (by decide),hS 20 _ rfl (by decide),hS 21 _ rfl (by decide),hS 22 _ rfl (by decide),hS 23 _ rfl (by decide),hS 24 _ rfl (by decide),hS 25 _ rfl (by decide),hS 26 _ rfl (by decide),hS 27 _ rfl (by decide),hS 28 _ rfl (by decide),hS 29 _ rfl (by decide),hS 30 _ rfl (by decide),hS 31 _ rfl (by decide),hS 32 _ rfl (by decide),hS 33 _ rfl (by decide),hS 34 _ rfl (by decide),hS 35 _ rfl (by decide),hS 36 _ rfl (by decide),hS 37 _ rfl (by decide),hS 38 _ rfl (by decide),hS 39 _ rfl (by decide),hS 40 _ rfl (by decide),hS 41 _ rfl (by decide),hS 42 _ rfl (by decide),hS 43 _ rfl (by decide),hS 44 _ rfl (by decide),hS 45 _ rfl (by decide),hS 46 _ rfl (by decide),hS 47 _ rfl (by decide),hS 48 _ rfl (by decide),hS 49 _ rfl (by decide),trivial⟩
             simp only [puts,List.take_succ_cons,List.take_zero,Act.put,List.setIfInBounds_toArray,List.set_cons_succ,List.set_cons_zero] at ha
             subst ha
             change tl _ _ _ (_:: []) _ _
             clear hS hF
             refine tl_val (v:=.bool false) rfl (run_pick_f rfl rfl rfl) (tl_nil ?_)
             have HB8:=Lib.hid hB
             clear hB
             simp only [Act.put,List.setIfInBounds_toArray,List.set_cons_succ,List.set_cons_zero]
             gi_wp2_with (fail)
             exact HFIN.out HB8.out
         ·have hszx:SX=szT S.l x:=hSX.trans (sizeA_at hxl)
          obtain ⟨SA,hSA⟩:∃z,z=szT S.l n1:=⟨_,rfl⟩
          have hnl:n1<S.l.length:=by omega
          have HSA:Hid (∀{w2:World},Below W2.heap.size W2 w2→Calls Try.prog 60 #[.pointer (some ⟨p,0,none⟩),.int .i64 (n1:Int)] w2 fun e w'=> e=.returned (.int .i64 SA)∧Below w2.heap.size w2 w'):=Lib.hid fun hB=> by
           rw [hSA,←sizeA_at hnl]
           exact sSize_any (S2.out.below' hB) (n1:Int) (by have:=HSL.out;omega)
          have HN1:Hid ((k1 !=1)=true):=Lib.hid (by simp;omega)
          have HN9:Hid ((k1 !=9)=true):=Lib.hid (by simp;omega)
          have HN4:Hid ((k1==4)=false):=Lib.hid (by simp;omega)
          have HN5:Hid ((k1==5)=false):=Lib.hid (by simp;omega)
          have HN8:Hid ((k1==8)=false):=Lib.hid (by simp;omega)
          have HGE:Hid (decide ((x:Int)≤(n1:Int))=false):=Lib.hid (decide_eq_false (by omega))
          by_cases hbig:SX<1048576
          ·have HBIG:Hid (decide (SX<1048576)=true):=Lib.hid (decide_eq_true hbig)
           have HGS:Hid (decide (SX≤SA)=false):=Lib.hid (decide_eq_false (by
            have:=szT_part HOKS.out hgt (by simp only;omega) (by simp only;omega) rfl hn1 (by omega)
            omega))
           clear hbig hszx hSA hnl hgt hxl hSX hn1
           clear hk1
           ·skip
            refine region_tail_in (n:=225) (by kernel_rfl) 50 (by decide) (by kernel_rfl) (by kernel_rfl) (by kernel_rfl) (by kernel_rfl) rfl
             (fun ii vv _=> (match ii with | 0 | 4 | 31 | 35 | 40=> vv=.pointer (some ⟨Bx,0,none⟩) | 1 | 5 | 32 | 36 | 41=> vv=.int .i64 (k1) | 2 | 3 | 6 | 7 | 8 | 17 | 18=> vv=.bool true | 9 | 20=> vv=.pointer (some ⟨Bx,1,none⟩) | 10 | 21=> vv=.int .i64 ((n1:Int)) | 11 | 15 | 24=> vv=.int .i64 ((x:Int)) | 12 | 13 | 26 | 27 | 28 | 29 | 30 | 33 | 34 | 37 | 38 | 39 | 42 | 43 | 44 | 49=> vv=.bool false | 14 | 19 | 23=> vv=.pointer (some ⟨p,0,none⟩) | 16 | 25=> vv=.int .i64 (SX) | 22=> vv=.int .i64 (SA) | 45 | 46 | 47 | 48=> vv=undef | _=> True))
             (fun _ _ _ _ h _=> h) ?_ ?_
            ·refine Each.all ?_
             refine ⟨?_,?_,?_,?_,?_,?_,?_,?_,?_,?_,?_,?_,?_,?_,?_,?_,?_,?_,?_,?_,?_,?_,?_,?_,?_,?_,?_,?_,?_,?_,?_,?_,?_,?_,?_,?_,?_,?_,?_,?_,?_,?_,?_,?_,?_,?_,?_,?_,?_,?_,(fun h=> absurd h (by decide)),trivial⟩
             ·intro _ a w2 hB hF hd
              rw [if_pos (wanted_none rfl)]
              refine flow_val (fun h=> by cases h) (run_field_at (m:=0) (k:=0) rfl (hF.same 26 rfl) (by kernel_rfl)) ?_
              exact rfl
             ·intro _ a w2 hB hF hd
              rw [if_pos (wanted_none rfl)]
              exact flow_val (fun h=> by cases h) (run_load_cell rfl (hd 0 _ rfl (waits_spec rfl)) Try.underlying3 ((hB.cell (p:=⟨Bx,0,none⟩) HXB.out).trans K0.out)) rfl
             ·intro _ a w2 hB hF hd
              rw [if_pos (wanted_none rfl)]
              exact flow_val (fun h=> by cases h) (Go.Bas.run_neq_int rfl (hd 1 _ rfl (waits_spec rfl)) rfl) (congrArg Value.bool (HN1.out))
             ·intro _ a w2 hB hF hd
              rw [if_pos (wanted_none rfl)]
              exact flow_move _ (.inl rfl) (by simp) (hd 2 _ rfl (waits_spec rfl))
             ·intro _ a w2 hB hF hd
              refine flow_wanted (wanted_yes rfl rfl (hd 3 _ rfl (waits_spec rfl)) rfl) ?_
              refine flow_val (fun h=> by cases h) (run_field_at (m:=0) (k:=0) rfl (hF.same 26 rfl) (by kernel_rfl)) ?_
              exact rfl
             ·intro _ a w2 hB hF hd
              refine flow_wanted (wanted_yes rfl rfl (hd 3 _ rfl (waits_spec rfl)) rfl) ?_
              exact flow_val (fun h=> by cases h) (run_load_cell rfl (hd 4 _ rfl (waits_spec rfl)) Try.underlying3 ((hB.cell (p:=⟨Bx,0,none⟩) HXB.out).trans K0.out)) rfl
             ·intro _ a w2 hB hF hd
              refine flow_wanted (wanted_yes rfl rfl (hd 3 _ rfl (waits_spec rfl)) rfl) ?_
              exact flow_val (fun h=> by cases h) (Go.Bas.run_neq_int rfl (hd 5 _ rfl (waits_spec rfl)) rfl) (congrArg Value.bool (HN9.out))
             ·intro _ a w2 hB hF hd
              rw [if_pos (wanted_none rfl)]
              exact flow_val (fun h=> by cases h) (run_pick rfl (hd 3 _ rfl (waits_spec rfl))) ((hd 6 _ rfl (waits_spec rfl)))
             ·intro _ a w2 hB hF hd
              rw [if_pos (wanted_none rfl)]
              exact flow_move _ (.inl rfl) (by simp) (hd 7 _ rfl (waits_spec rfl))
             ·intro _ a w2 hB hF hd
              refine flow_wanted (wanted_yes rfl rfl (hd 8 _ rfl (waits_spec rfl)) rfl) ?_
              refine flow_val (fun h=> by cases h) (run_field_at (m:=0) (k:=1) rfl (hF.same 26 rfl) (by kernel_rfl)) ?_
              exact rfl
             ·intro _ a w2 hB hF hd
              refine flow_wanted (wanted_yes rfl rfl (hd 8 _ rfl (waits_spec rfl)) rfl) ?_
              exact flow_val (fun h=> by cases h) (run_load_cell rfl (hd 9 _ rfl (waits_spec rfl)) Try.underlying3 ((hB.cell (p:=⟨Bx,1,none⟩) HXB.out).trans K1.out)) rfl
             ·intro _ a w2 hB hF hd
              refine flow_wanted (wanted_yes rfl rfl (hd 8 _ rfl (waits_spec rfl)) rfl) ?_
              exact flow_move _ (.inl rfl) (by simp) (hF.same 25 rfl)
             ·intro _ a w2 hB hF hd
              refine flow_wanted (wanted_yes rfl rfl (hd 8 _ rfl (waits_spec rfl)) rfl) ?_
              exact flow_val (fun h=> by cases h) (Go.Bas.run_geq rfl (hd 10 _ rfl (waits_spec rfl)) (hd 11 _ rfl (waits_spec rfl))) (congrArg Value.bool (HGE.out))
             ·intro _ a w2 hB hF hd
              refine flow_wanted (wanted_yes rfl rfl (hd 8 _ rfl (waits_spec rfl)) rfl) ?_
              exact flow_move _ (.inl rfl) (by simp) (hd 12 _ rfl (waits_spec rfl))
             ·intro _ a w2 hB hF hd
              refine flow_wanted (wanted_yes rfl rfl (hd 13 _ rfl (waits_spec rfl)) rfl) ?_
              exact flow_val (fun h=> by cases h) (run_load_pt rfl (hF.same 10 rfl) Try.underlying90 ((hB.cell (p:=⟨bs,0,none⟩) SB2.out.lt).trans SB2.out.cell)) rfl
             ·intro _ a w2 hB hF hd
              refine flow_wanted (wanted_yes rfl rfl (hd 13 _ rfl (waits_spec rfl)) rfl) ?_
              exact flow_move _ (.inl rfl) (by simp) (hF.same 25 rfl)
             ·intro _ a w2 hB hF hd
              refine flow_wanted (wanted_yes rfl rfl (hd 13 _ rfl (waits_spec rfl)) rfl) ?_
              refine flow_call _ _ _ rfl Try.call60 _ (args2 (hd 14 _ rfl (waits_spec rfl)) (hd 15 _ rfl (waits_spec rfl))) (by simp) ((HSX.out hB).mono ?_)
              rintro e w3 ⟨rfl,hb⟩;exact ⟨_,rfl,rfl,hb⟩
             ·intro _ a w2 hB hF hd
              refine flow_wanted (wanted_yes rfl rfl (hd 13 _ rfl (waits_spec rfl)) rfl) ?_
              exact flow_val (fun h=> by cases h) (Go.Bas.run_lss rfl (hd 16 _ rfl (waits_spec rfl)) rfl) (congrArg Value.bool (HBIG.out))
             ·intro _ a w2 hB hF hd
              refine flow_wanted (wanted_yes rfl rfl (hd 13 _ rfl (waits_spec rfl)) rfl) ?_
              exact flow_move _ (.inl rfl) (by simp) (hd 17 _ rfl (waits_spec rfl))
             ·intro _ a w2 hB hF hd
              refine flow_wanted (wanted_yes rfl rfl (hd 18 _ rfl (waits_spec rfl)) rfl) ?_
              exact flow_val (fun h=> by cases h) (run_load_pt rfl (hF.same 10 rfl) Try.underlying90 ((hB.cell (p:=⟨bs,0,none⟩) SB2.out.lt).trans SB2.out.cell)) rfl
             ·intro _ a w2 hB hF hd
              refine flow_wanted (wanted_yes rfl rfl (hd 18 _ rfl (waits_spec rfl)) rfl) ?_
              refine flow_val (fun h=> by cases h) (run_field_at (m:=0) (k:=1) rfl (hF.same 26 rfl) (by kernel_rfl)) ?_
              exact rfl
             ·intro _ a w2 hB hF hd
              refine flow_wanted (wanted_yes rfl rfl (hd 18 _ rfl (waits_spec rfl)) rfl) ?_
              exact flow_val (fun h=> by cases h) (run_load_cell rfl (hd 20 _ rfl (waits_spec rfl)) Try.underlying3 ((hB.cell (p:=⟨Bx,1,none⟩) HXB.out).trans K1.out)) rfl
             ·intro _ a w2 hB hF hd
              refine flow_wanted (wanted_yes rfl rfl (hd 18 _ rfl (waits_spec rfl)) rfl) ?_
              refine flow_call _ _ _ rfl Try.call60 _ (args2 (hd 19 _ rfl (waits_spec rfl)) (hd 21 _ rfl (waits_spec rfl))) (by simp) ((HSA.out hB).mono ?_)
              rintro e w3 ⟨rfl,hb⟩;exact ⟨_,rfl,rfl,hb⟩
             ·intro _ a w2 hB hF hd
              refine flow_wanted (wanted_yes rfl rfl (hd 18 _ rfl (waits_spec rfl)) rfl) ?_
              exact flow_val (fun h=> by cases h) (run_load_pt rfl (hF.same 10 rfl) Try.underlying90 ((hB.cell (p:=⟨bs,0,none⟩) SB2.out.lt).trans SB2.out.cell)) rfl
             ·intro _ a w2 hB hF hd
              refine flow_wanted (wanted_yes rfl rfl (hd 18 _ rfl (waits_spec rfl)) rfl) ?_
              exact flow_move _ (.inl rfl) (by simp) (hF.same 25 rfl)
             ·intro _ a w2 hB hF hd
              refine flow_wanted (wanted_yes rfl rfl (hd 18 _ rfl (waits_spec rfl)) rfl) ?_
              refine flow_call _ _ _ rfl Try.call60 _ (args2 (hd 23 _ rfl (waits_spec rfl)) (hd 24 _ rfl (waits_spec rfl))) (by simp) ((HSX.out hB).mono ?_)
              rintro e w3 ⟨rfl,hb⟩;exact ⟨_,rfl,rfl,hb⟩
             ·intro _ a w2 hB hF hd
              refine flow_wanted (wanted_yes rfl rfl (hd 18 _ rfl (waits_spec rfl)) rfl) ?_
              exact flow_val (fun h=> by cases h) (Go.Bas.run_geq rfl (hd 22 _ rfl (waits_spec rfl)) (hd 25 _ rfl (waits_spec rfl))) (congrArg Value.bool (HGS.out))
             ·intro _ a w2 hB hF hd
              refine flow_wanted (wanted_yes rfl rfl (hd 13 _ rfl (waits_spec rfl)) rfl) ?_
              exact flow_val (fun h=> by cases h) (run_pick rfl (hd 18 _ rfl (waits_spec rfl))) ((hd 26 _ rfl (waits_spec rfl)))
             ·intro _ a w2 hB hF hd
              refine flow_wanted (wanted_yes rfl rfl (hd 8 _ rfl (waits_spec rfl)) rfl) ?_
              exact flow_val (fun h=> by cases h) (run_pick rfl (hd 13 _ rfl (waits_spec rfl))) ((hd 27 _ rfl (waits_spec rfl)))
             ·intro _ a w2 hB hF hd
              rw [if_pos (wanted_none rfl)]
              exact flow_val (fun h=> by cases h) (run_pick rfl (hd 8 _ rfl (waits_spec rfl))) ((hd 28 _ rfl (waits_spec rfl)))
             ·intro _ a w2 hB hF hd
              rw [if_pos (wanted_none rfl)]
              exact flow_move _ (.inl rfl) (by simp) (hd 29 _ rfl (waits_spec rfl))
             ·intro _ a w2 hB hF hd
              refine flow_wanted (wanted_yes rfl rfl (hd 30 _ rfl (waits_spec rfl)) rfl) ?_
              refine flow_val (fun h=> by cases h) (run_field_at (m:=0) (k:=0) rfl (hF.same 26 rfl) (by kernel_rfl)) ?_
              exact rfl
             ·intro _ a w2 hB hF hd
              refine flow_wanted (wanted_yes rfl rfl (hd 30 _ rfl (waits_spec rfl)) rfl) ?_
              exact flow_val (fun h=> by cases h) (run_load_cell rfl (hd 31 _ rfl (waits_spec rfl)) Try.underlying3 ((hB.cell (p:=⟨Bx,0,none⟩) HXB.out).trans K0.out)) rfl
             ·intro _ a w2 hB hF hd
              refine flow_wanted (wanted_yes rfl rfl (hd 30 _ rfl (waits_spec rfl)) rfl) ?_
              refine flow_val (fun h=> by cases h) (Go.Bas.run_eql_int rfl (hd 32 _ rfl (waits_spec rfl)) rfl) ?_
              exact congrArg Value.bool HN4.out
             ·intro _ a w2 hB hF hd
              refine flow_wanted (wanted_yes rfl rfl (hd 30 _ rfl (waits_spec rfl)) rfl) ?_
              exact flow_move _ (.inl rfl) (by simp) (hd 33 _ rfl (waits_spec rfl))
             ·intro _ a w2 hB hF hd
              refine flow_wanted (wanted_yes rfl rfl (hd 34 _ rfl (waits_spec rfl)) rfl) ?_
              refine flow_val (fun h=> by cases h) (run_field_at (m:=0) (k:=0) rfl (hF.same 26 rfl) (by kernel_rfl)) ?_
              exact rfl
             ·intro _ a w2 hB hF hd
              refine flow_wanted (wanted_yes rfl rfl (hd 34 _ rfl (waits_spec rfl)) rfl) ?_
              exact flow_val (fun h=> by cases h) (run_load_cell rfl (hd 35 _ rfl (waits_spec rfl)) Try.underlying3 ((hB.cell (p:=⟨Bx,0,none⟩) HXB.out).trans K0.out)) rfl
             ·intro _ a w2 hB hF hd
              refine flow_wanted (wanted_yes rfl rfl (hd 34 _ rfl (waits_spec rfl)) rfl) ?_
              refine flow_val (fun h=> by cases h) (Go.Bas.run_eql_int rfl (hd 36 _ rfl (waits_spec rfl)) rfl) ?_
              exact congrArg Value.bool HN5.out
             ·intro _ a w2 hB hF hd
              refine flow_wanted (wanted_yes rfl rfl (hd 30 _ rfl (waits_spec rfl)) rfl) ?_
              exact flow_val (fun h=> by cases h) (run_pick rfl (hd 34 _ rfl (waits_spec rfl))) ((hd 37 _ rfl (waits_spec rfl)))
             ·intro _ a w2 hB hF hd
              refine flow_wanted (wanted_yes rfl rfl (hd 30 _ rfl (waits_spec rfl)) rfl) ?_
              exact flow_move _ (.inl rfl) (by simp) (hd 38 _ rfl (waits_spec rfl))
             ·intro _ a w2 hB hF hd
              refine flow_wanted (wanted_yes rfl rfl (hd 39 _ rfl (waits_spec rfl)) rfl) ?_
              refine flow_val (fun h=> by cases h) (run_field_at (m:=0) (k:=0) rfl (hF.same 26 rfl) (by kernel_rfl)) ?_
              exact rfl
             ·intro _ a w2 hB hF hd
              refine flow_wanted (wanted_yes rfl rfl (hd 39 _ rfl (waits_spec rfl)) rfl) ?_
              exact flow_val (fun h=> by cases h) (run_load_cell rfl (hd 40 _ rfl (waits_spec rfl)) Try.underlying3 ((hB.cell (p:=⟨Bx,0,none⟩) HXB.out).trans K0.out)) rfl
             ·intro _ a w2 hB hF hd
              refine flow_wanted (wanted_yes rfl rfl (hd 39 _ rfl (waits_spec rfl)) rfl) ?_
              refine flow_val (fun h=> by cases h) (Go.Bas.run_eql_int rfl (hd 41 _ rfl (waits_spec rfl)) rfl) ?_
              exact congrArg Value.bool HN8.out
             ·intro _ a w2 hB hF hd
              refine flow_wanted (wanted_yes rfl rfl (hd 30 _ rfl (waits_spec rfl)) rfl) ?_
              exact flow_val (fun h=> by cases h) (run_pick rfl (hd 39 _ rfl (waits_spec rfl))) ((hd 42 _ rfl (waits_spec rfl)))
             ·intro _ a w2 hB hF hd
              refine flow_wanted (wanted_yes rfl rfl (hd 30 _ rfl (waits_spec rfl)) rfl) ?_
              exact flow_move _ (.inl rfl) (by simp) (hd 43 _ rfl (waits_spec rfl))
             ·intro _ a w2 hB hF hd
              rw [if_neg (by rw [wanted_some rfl rfl (hd 44 _ rfl (waits_spec rfl))];decide)]
              exact rfl
             ·intro _ a w2 hB hF hd
              rw [if_neg (by rw [wanted_some rfl rfl (hd 44 _ rfl (waits_spec rfl))];decide)]
              exact rfl
             ·intro _ a w2 hB hF hd
              rw [if_neg (by rw [wanted_some rfl rfl (hd 44 _ rfl (waits_spec rfl))];decide)]
              exact rfl
             ·intro _ a w2 hB hF hd
              rw [if_neg (by rw [wanted_some rfl rfl (hd 44 _ rfl (waits_spec rfl))];decide)]
              exact rfl
             ·intro _ a w2 hB hF hd
              refine flow_wanted (wanted_yes rfl rfl (hd 30 _ rfl (waits_spec rfl)) rfl) ?_
              exact flow_val (fun h=> by cases h) (run_pick rfl (hd 44 _ rfl (waits_spec rfl))) (rfl)
            ·intro a w8 hB hF hS
             have ha:=puts_each rfl rfl hF [_,_,_,_,_,_,_,_,_,_,_,_,_,_,_,_,_,_,_,_,_,_,_,_,_,_,_,_,_,_,_,_,_,_,_,_,_,_,_,_,_,_,_,_,_,_,_,_,_,_] rfl ⟨hS 0 _ rfl (by decide),hS 1 _ rfl (by decide),hS 2 _ rfl (by decide),hS 3 _ rfl (by decide),hS 4 _ rfl (by decide),hS 5 _ rfl (by decide),hS 6 _ rfl (by decide),hS 7 _ rfl (by decide),hS 8 _ rfl (by decide),hS 9 _ rfl (by decide),hS 10 _ rfl (by decide),hS 11 _ rfl (by decide),hS 12 _ rfl (by decide),hS 13 _ rfl (by decide),hS 14 _ rfl (by decide),hS 15 _ rfl (by decide),hS 16 _ rfl (by decide),hS 17 _ rfl (by decide),hS 18 _ rfl (by decide),hS 19 _ rfl (by decide),hS 20 _ rfl (by decide),hS 21 _ rfl (by decide),hS 22 _ rfl (by decide),hS 23 _ rfl (by decide),hS 24 _ rfl (by decide),hS 25 _ rfl (by decide),hS 26 _ rfl (by decide),hS 27 _ rfl (by decide),hS 28 _ rfl (by decide),hS 29 _ rfl (by decide),hS 30 _ rfl (by decide),hS 31 _ rfl (by decide),hS 32 _ rfl (by decide),hS 33 _ rfl (by decide),hS 34 _ rfl (by decide),hS 35 _ rfl (by decide),hS 36 _ rfl (by decide),hS 37 _ rfl (by decide),hS 38 _ rfl (by decide),hS 39 _ rfl (by decide),hS 40 _ rfl (by decide),hS 41 _ rfl (by decide),hS 42 _ rfl (by decide),hS 43 _ rfl (by decide),hS 44 _ rfl (by decide),hS 45 _ rfl (by decide),hS 46 _ rfl (by decide),hS 47 _ rfl (by decide),hS 48 _ rfl (by decide),hS 49 _ rfl (by decide),trivial⟩
             simp only [puts,List.take_succ_cons,List.take_zero,Act.put,List.setIfInBounds_toArray,List.set_cons_succ,List.set_cons_zero] at ha
             subst ha
             change tl _ _ _ (_:: []) _ _
             clear hS hF
             refine tl_val (v:=.bool false) rfl (run_pick_f rfl rfl rfl) (tl_nil ?_)
             have HB8:=Lib.hid hB
             clear hB
             simp only [Act.put,List.setIfInBounds_toArray,List.set_cons_succ,List.set_cons_zero]
             gi_wp2_with (fail)
             exact HFIN.out HB8.out
          ·have HBIG:Hid (decide (SX<1048576)=false):=Lib.hid (decide_eq_false hbig)
           clear hbig hszx hSA hnl hgt hxl hSX hn1
           clear hk1
           ·skip
            refine region_tail_in (n:=225) (by kernel_rfl) 50 (by decide) (by kernel_rfl) (by kernel_rfl) (by kernel_rfl) (by kernel_rfl) rfl
             (fun ii vv _=> (match ii with | 0 | 4 | 31 | 35 | 40=> vv=.pointer (some ⟨Bx,0,none⟩) | 1 | 5 | 32 | 36 | 41=> vv=.int .i64 (k1) | 2 | 3 | 6 | 7 | 8=> vv=.bool true | 9=> vv=.pointer (some ⟨Bx,1,none⟩) | 10=> vv=.int .i64 ((n1:Int)) | 11 | 15=> vv=.int .i64 ((x:Int)) | 12 | 13 | 17 | 18 | 27 | 28 | 29 | 30 | 33 | 34 | 37 | 38 | 39 | 42 | 43 | 44 | 49=> vv=.bool false | 14=> vv=.pointer (some ⟨p,0,none⟩) | 16=> vv=.int .i64 (SX) | 19 | 20 | 21 | 22 | 23 | 24 | 25 | 26 | 45 | 46 | 47 | 48=> vv=undef | _=> True))
             (fun _ _ _ _ h _=> h) ?_ ?_
            ·refine Each.all ?_
             refine ⟨?_,?_,?_,?_,?_,?_,?_,?_,?_,?_,?_,?_,?_,?_,?_,?_,?_,?_,?_,?_,?_,?_,?_,?_,?_,?_,?_,?_,?_,?_,?_,?_,?_,?_,?_,?_,?_,?_,?_,?_,?_,?_,?_,?_,?_,?_,?_,?_,?_,?_,(fun h=> absurd h (by decide)),trivial⟩
             ·intro _ a w2 hB hF hd
              rw [if_pos (wanted_none rfl)]
              refine flow_val (fun h=> by cases h) (run_field_at (m:=0) (k:=0) rfl (hF.same 26 rfl) (by kernel_rfl)) ?_
              exact rfl
             ·intro _ a w2 hB hF hd
              rw [if_pos (wanted_none rfl)]
              exact flow_val (fun h=> by cases h) (run_load_cell rfl (hd 0 _ rfl (waits_spec rfl)) Try.underlying3 ((hB.cell (p:=⟨Bx,0,none⟩) HXB.out).trans K0.out)) rfl
             ·intro _ a w2 hB hF hd
              rw [if_pos (wanted_none rfl)]
              exact flow_val (fun h=> by cases h) (Go.Bas.run_neq_int rfl (hd 1 _ rfl (waits_spec rfl)) rfl) (congrArg Value.bool (HN1.out))
             ·intro _ a w2 hB hF hd
              rw [if_pos (wanted_none rfl)]
              exact flow_move _ (.inl rfl) (by simp) (hd 2 _ rfl (waits_spec rfl))
             ·intro _ a w2 hB hF hd
              refine flow_wanted (wanted_yes rfl rfl (hd 3 _ rfl (waits_spec rfl)) rfl) ?_
              refine flow_val (fun h=> by cases h) (run_field_at (m:=0) (k:=0) rfl (hF.same 26 rfl) (by kernel_rfl)) ?_
              exact rfl
             ·intro _ a w2 hB hF hd
              refine flow_wanted (wanted_yes rfl rfl (hd 3 _ rfl (waits_spec rfl)) rfl) ?_
              exact flow_val (fun h=> by cases h) (run_load_cell rfl (hd 4 _ rfl (waits_spec rfl)) Try.underlying3 ((hB.cell (p:=⟨Bx,0,none⟩) HXB.out).trans K0.out)) rfl
             ·intro _ a w2 hB hF hd
              refine flow_wanted (wanted_yes rfl rfl (hd 3 _ rfl (waits_spec rfl)) rfl) ?_
              exact flow_val (fun h=> by cases h) (Go.Bas.run_neq_int rfl (hd 5 _ rfl (waits_spec rfl)) rfl) (congrArg Value.bool (HN9.out))
             ·intro _ a w2 hB hF hd
              rw [if_pos (wanted_none rfl)]
              exact flow_val (fun h=> by cases h) (run_pick rfl (hd 3 _ rfl (waits_spec rfl))) ((hd 6 _ rfl (waits_spec rfl)))
             ·intro _ a w2 hB hF hd
              rw [if_pos (wanted_none rfl)]
              exact flow_move _ (.inl rfl) (by simp) (hd 7 _ rfl (waits_spec rfl))
             ·intro _ a w2 hB hF hd
              refine flow_wanted (wanted_yes rfl rfl (hd 8 _ rfl (waits_spec rfl)) rfl) ?_
              refine flow_val (fun h=> by cases h) (run_field_at (m:=0) (k:=1) rfl (hF.same 26 rfl) (by kernel_rfl)) ?_
              exact rfl
             ·intro _ a w2 hB hF hd
              refine flow_wanted (wanted_yes rfl rfl (hd 8 _ rfl (waits_spec rfl)) rfl) ?_
              exact flow_val (fun h=> by cases h) (run_load_cell rfl (hd 9 _ rfl (waits_spec rfl)) Try.underlying3 ((hB.cell (p:=⟨Bx,1,none⟩) HXB.out).trans K1.out)) rfl
             ·intro _ a w2 hB hF hd
              refine flow_wanted (wanted_yes rfl rfl (hd 8 _ rfl (waits_spec rfl)) rfl) ?_
              exact flow_move _ (.inl rfl) (by simp) (hF.same 25 rfl)
             ·intro _ a w2 hB hF hd
              refine flow_wanted (wanted_yes rfl rfl (hd 8 _ rfl (waits_spec rfl)) rfl) ?_
              exact flow_val (fun h=> by cases h) (Go.Bas.run_geq rfl (hd 10 _ rfl (waits_spec rfl)) (hd 11 _ rfl (waits_spec rfl))) (congrArg Value.bool (HGE.out))
             ·intro _ a w2 hB hF hd
              refine flow_wanted (wanted_yes rfl rfl (hd 8 _ rfl (waits_spec rfl)) rfl) ?_
              exact flow_move _ (.inl rfl) (by simp) (hd 12 _ rfl (waits_spec rfl))
             ·intro _ a w2 hB hF hd
              refine flow_wanted (wanted_yes rfl rfl (hd 13 _ rfl (waits_spec rfl)) rfl) ?_
              exact flow_val (fun h=> by cases h) (run_load_pt rfl (hF.same 10 rfl) Try.underlying90 ((hB.cell (p:=⟨bs,0,none⟩) SB2.out.lt).trans SB2.out.cell)) rfl
             ·intro _ a w2 hB hF hd
              refine flow_wanted (wanted_yes rfl rfl (hd 13 _ rfl (waits_spec rfl)) rfl) ?_
              exact flow_move _ (.inl rfl) (by simp) (hF.same 25 rfl)
             ·intro _ a w2 hB hF hd
              refine flow_wanted (wanted_yes rfl rfl (hd 13 _ rfl (waits_spec rfl)) rfl) ?_
              refine flow_call _ _ _ rfl Try.call60 _ (args2 (hd 14 _ rfl (waits_spec rfl)) (hd 15 _ rfl (waits_spec rfl))) (by simp) ((HSX.out hB).mono ?_)
              rintro e w3 ⟨rfl,hb⟩;exact ⟨_,rfl,rfl,hb⟩
             ·intro _ a w2 hB hF hd
              refine flow_wanted (wanted_yes rfl rfl (hd 13 _ rfl (waits_spec rfl)) rfl) ?_
              exact flow_val (fun h=> by cases h) (Go.Bas.run_lss rfl (hd 16 _ rfl (waits_spec rfl)) rfl) (congrArg Value.bool (HBIG.out))
             ·intro _ a w2 hB hF hd
              refine flow_wanted (wanted_yes rfl rfl (hd 13 _ rfl (waits_spec rfl)) rfl) ?_
              exact flow_move _ (.inl rfl) (by simp) (hd 17 _ rfl (waits_spec rfl))
             ·intro _ a w2 hB hF hd
              rw [if_neg (by rw [wanted_some rfl rfl (hd 18 _ rfl (waits_spec rfl))];decide)]
              exact rfl
             ·intro _ a w2 hB hF hd
              rw [if_neg (by rw [wanted_some rfl rfl (hd 18 _ rfl (waits_spec rfl))];decide)]
              exact rfl
             ·intro _ a w2 hB hF hd
              rw [if_neg (by rw [wanted_some rfl rfl (hd 18 _ rfl (waits_spec rfl))];decide)]
              exact rfl
             ·intro _ a w2 hB hF hd
              rw [if_neg (by rw [wanted_some rfl rfl (hd 18 _ rfl (waits_spec rfl))];decide)]
              exact rfl
             ·intro _ a w2 hB hF hd
              rw [if_neg (by rw [wanted_some rfl rfl (hd 18 _ rfl (waits_spec rfl))];decide)]
              exact rfl
             ·intro _ a w2 hB hF hd
              rw [if_neg (by rw [wanted_some rfl rfl (hd 18 _ rfl (waits_spec rfl))];decide)]
              exact rfl
             ·intro _ a w2 hB hF hd
              rw [if_neg (by rw [wanted_some rfl rfl (hd 18 _ rfl (waits_spec rfl))];decide)]
              exact rfl
             ·intro _ a w2 hB hF hd
              rw [if_neg (by rw [wanted_some rfl rfl (hd 18 _ rfl (waits_spec rfl))];decide)]
              exact rfl
             ·intro _ a w2 hB hF hd
              refine flow_wanted (wanted_yes rfl rfl (hd 13 _ rfl (waits_spec rfl)) rfl) ?_
              exact flow_val (fun h=> by cases h) (run_pick rfl (hd 18 _ rfl (waits_spec rfl))) (rfl)
             ·intro _ a w2 hB hF hd
              refine flow_wanted (wanted_yes rfl rfl (hd 8 _ rfl (waits_spec rfl)) rfl) ?_
              exact flow_val (fun h=> by cases h) (run_pick rfl (hd 13 _ rfl (waits_spec rfl))) ((hd 27 _ rfl (waits_spec rfl)))
             ·intro _ a w2 hB hF hd
              rw [if_pos (wanted_none rfl)]
              exact flow_val (fun h=> by cases h) (run_pick rfl (hd 8 _ rfl (waits_spec rfl))) ((hd 28 _ rfl (waits_spec rfl)))
             ·intro _ a w2 hB hF hd
              rw [if_pos (wanted_none rfl)]
              exact flow_move _ (.inl rfl) (by simp) (hd 29 _ rfl (waits_spec rfl))
             ·intro _ a w2 hB hF hd
              refine flow_wanted (wanted_yes rfl rfl (hd 30 _ rfl (waits_spec rfl)) rfl) ?_
              refine flow_val (fun h=> by cases h) (run_field_at (m:=0) (k:=0) rfl (hF.same 26 rfl) (by kernel_rfl)) ?_
              exact rfl
             ·intro _ a w2 hB hF hd
              refine flow_wanted (wanted_yes rfl rfl (hd 30 _ rfl (waits_spec rfl)) rfl) ?_
              exact flow_val (fun h=> by cases h) (run_load_cell rfl (hd 31 _ rfl (waits_spec rfl)) Try.underlying3 ((hB.cell (p:=⟨Bx,0,none⟩) HXB.out).trans K0.out)) rfl
             ·intro _ a w2 hB hF hd
              refine flow_wanted (wanted_yes rfl rfl (hd 30 _ rfl (waits_spec rfl)) rfl) ?_
              refine flow_val (fun h=> by cases h) (Go.Bas.run_eql_int rfl (hd 32 _ rfl (waits_spec rfl)) rfl) ?_
              exact congrArg Value.bool HN4.out
             ·intro _ a w2 hB hF hd
              refine flow_wanted (wanted_yes rfl rfl (hd 30 _ rfl (waits_spec rfl)) rfl) ?_
              exact flow_move _ (.inl rfl) (by simp) (hd 33 _ rfl (waits_spec rfl))
             ·intro _ a w2 hB hF hd
              refine flow_wanted (wanted_yes rfl rfl (hd 34 _ rfl (waits_spec rfl)) rfl) ?_
              refine flow_val (fun h=> by cases h) (run_field_at (m:=0) (k:=0) rfl (hF.same 26 rfl) (by kernel_rfl)) ?_
              exact rfl
             ·intro _ a w2 hB hF hd
              refine flow_wanted (wanted_yes rfl rfl (hd 34 _ rfl (waits_spec rfl)) rfl) ?_
              exact flow_val (fun h=> by cases h) (run_load_cell rfl (hd 35 _ rfl (waits_spec rfl)) Try.underlying3 ((hB.cell (p:=⟨Bx,0,none⟩) HXB.out).trans K0.out)) rfl
             ·intro _ a w2 hB hF hd
              refine flow_wanted (wanted_yes rfl rfl (hd 34 _ rfl (waits_spec rfl)) rfl) ?_
              refine flow_val (fun h=> by cases h) (Go.Bas.run_eql_int rfl (hd 36 _ rfl (waits_spec rfl)) rfl) ?_
              exact congrArg Value.bool HN5.out
             ·intro _ a w2 hB hF hd
              refine flow_wanted (wanted_yes rfl rfl (hd 30 _ rfl (waits_spec rfl)) rfl) ?_
              exact flow_val (fun h=> by cases h) (run_pick rfl (hd 34 _ rfl (waits_spec rfl))) ((hd 37 _ rfl (waits_spec rfl)))
             ·intro _ a w2 hB hF hd
              refine flow_wanted (wanted_yes rfl rfl (hd 30 _ rfl (waits_spec rfl)) rfl) ?_
              exact flow_move _ (.inl rfl) (by simp) (hd 38 _ rfl (waits_spec rfl))
             ·intro _ a w2 hB hF hd
              refine flow_wanted (wanted_yes rfl rfl (hd 39 _ rfl (waits_spec rfl)) rfl) ?_
              refine flow_val (fun h=> by cases h) (run_field_at (m:=0) (k:=0) rfl (hF.same 26 rfl) (by kernel_rfl)) ?_
              exact rfl
             ·intro _ a w2 hB hF hd
              refine flow_wanted (wanted_yes rfl rfl (hd 39 _ rfl (waits_spec rfl)) rfl) ?_
              exact flow_val (fun h=> by cases h) (run_load_cell rfl (hd 40 _ rfl (waits_spec rfl)) Try.underlying3 ((hB.cell (p:=⟨Bx,0,none⟩) HXB.out).trans K0.out)) rfl
             ·intro _ a w2 hB hF hd
              refine flow_wanted (wanted_yes rfl rfl (hd 39 _ rfl (waits_spec rfl)) rfl) ?_
              refine flow_val (fun h=> by cases h) (Go.Bas.run_eql_int rfl (hd 41 _ rfl (waits_spec rfl)) rfl) ?_
              exact congrArg Value.bool HN8.out
             ·intro _ a w2 hB hF hd
              refine flow_wanted (wanted_yes rfl rfl (hd 30 _ rfl (waits_spec rfl)) rfl) ?_
              exact flow_val (fun h=> by cases h) (run_pick rfl (hd 39 _ rfl (waits_spec rfl))) ((hd 42 _ rfl (waits_spec rfl)))
             ·intro _ a w2 hB hF hd
              refine flow_wanted (wanted_yes rfl rfl (hd 30 _ rfl (waits_spec rfl)) rfl) ?_
              exact flow_move _ (.inl rfl) (by simp) (hd 43 _ rfl (waits_spec rfl))
             ·intro _ a w2 hB hF hd
              rw [if_neg (by rw [wanted_some rfl rfl (hd 44 _ rfl (waits_spec rfl))];decide)]
              exact rfl
             ·intro _ a w2 hB hF hd
              rw [if_neg (by rw [wanted_some rfl rfl (hd 44 _ rfl (waits_spec rfl))];decide)]
              exact rfl
             ·intro _ a w2 hB hF hd
              rw [if_neg (by rw [wanted_some rfl rfl (hd 44 _ rfl (waits_spec rfl))];decide)]
              exact rfl
             ·intro _ a w2 hB hF hd
              rw [if_neg (by rw [wanted_some rfl rfl (hd 44 _ rfl (waits_spec rfl))];decide)]
              exact rfl
             ·intro _ a w2 hB hF hd
              refine flow_wanted (wanted_yes rfl rfl (hd 30 _ rfl (waits_spec rfl)) rfl) ?_
              exact flow_val (fun h=> by cases h) (run_pick rfl (hd 44 _ rfl (waits_spec rfl))) (rfl)
            ·intro a w8 hB hF hS
             have ha:=puts_each rfl rfl hF [_,_,_,_,_,_,_,_,_,_,_,_,_,_,_,_,_,_,_,_,_,_,_,_,_,_,_,_,_,_,_,_,_,_,_,_,_,_,_,_,_,_,_,_,_,_,_,_,_,_] rfl ⟨hS 0 _ rfl (by decide),hS 1 _ rfl (by decide),hS 2 _ rfl (by decide),hS 3 _ rfl (by decide),hS 4 _ rfl (by decide),hS 5 _ rfl (by decide),hS 6 _ rfl (by decide),hS 7 _ rfl (by decide),hS 8 _ rfl (by decide),hS 9 _ rfl (by decide),hS 10 _ rfl (by decide),hS 11 _ rfl (by decide),hS 12 _ rfl (by decide),hS 13 _ rfl (by decide),hS 14 _ rfl (by decide),hS 15 _ rfl (by decide),hS 16 _ rfl (by decide),hS 17 _ rfl (by decide),hS 18 _ rfl (by decide),hS 19 _ rfl (by decide),hS 20 _ rfl (by decide),hS 21 _ rfl (by decide),hS 22 _ rfl (by decide),hS 23 _ rfl (by decide),hS 24 _ rfl (by decide),hS 25 _ rfl (by decide),hS 26 _ rfl (by decide),hS 27 _ rfl (by decide),hS 28 _ rfl (by decide),hS 29 _ rfl (by decide),hS 30 _ rfl (by decide),hS 31 _ rfl (by decide),hS 32 _ rfl (by decide),hS 33 _ rfl (by decide),hS 34 _ rfl (by decide),hS 35 _ rfl (by decide),hS 36 _ rfl (by decide),hS 37 _ rfl (by decide),hS 38 _ rfl (by decide),hS 39 _ rfl (by decide),hS 40 _ rfl (by decide),hS 41 _ rfl (by decide),hS 42 _ rfl (by decide),hS 43 _ rfl (by decide),hS 44 _ rfl (by decide),hS 45 _ rfl (by decide),hS 46 _ rfl (by decide),hS 47 _ rfl (by decide),hS 48 _ rfl (by decide),hS 49 _ rfl (by decide),trivial⟩
             simp only [puts,List.take_succ_cons,List.take_zero,Act.put,List.setIfInBounds_toArray,List.set_cons_succ,List.set_cons_zero] at ha
             subst ha
             change tl _ _ _ (_:: []) _ _
             clear hS hF
             refine tl_val (v:=.bool false) rfl (run_pick_f rfl rfl rfl) (tl_nil ?_)
             have HB8:=Lib.hid hB
             clear hB
             simp only [Act.put,List.setIfInBounds_toArray,List.set_cons_succ,List.set_cons_zero]
             gi_wp2_with (fail)
             exact HFIN.out HB8.out
        ·have HNR:=Lib.hid (HNRX.out hxl)
         have hz:((k1,A1,B1):Tm)=(0,0,0):=by rw [HT.out];unfold tmAt;rw [List.getD_eq_getElem?_getD,List.getElem?_eq_none (by omega)];rfl
         cases hz
         have hs0:SX=0:=by
          rw [hSX]
          unfold sizeA
          rw [if_neg fun h=> ?_]
          obtain ⟨a,h1,h2,_⟩:=hasT_lt h
          omega
         subst hs0
         obtain ⟨SA,hSA⟩:∃z,z=sizeA S ((0:Nat):Int):=⟨_,rfl⟩
         have HSA:Hid (∀{w2:World},Below W2.heap.size W2 w2→Calls Try.prog 60 #[.pointer (some ⟨p,0,none⟩),.int .i64 0] w2 fun e w'=> e=.returned (.int .i64 SA)∧Below w2.heap.size w2 w'):=Lib.hid fun hB=> by
          rw [hSA]
          exact sSize_any (S2.out.below' hB) 0 (by have:=HSL.out;omega)
         have h0l:0<S.l.length:=by have:=HLT.out;omega
         have HGE:Hid (decide ((x:Int)≤0)=false):=Lib.hid (decide_eq_false (by omega))
         have HBIG:Hid (decide ((0:Int)<1048576)=true):=Lib.hid rfl
         have HGS:Hid (decide ((0:Int)≤SA)=true):=Lib.hid (decide_eq_true (by rw [hSA,sizeA_at h0l];have:=(szT_bound HOKS.out 0 h0l).1;omega))
         clear hxl hSX hSA h0l
         refine region_tail_in (n:=225) (by kernel_rfl) 50 (by decide) (by kernel_rfl) (by kernel_rfl) (by kernel_rfl) (by kernel_rfl) rfl
          (fun ii vv _=> (match ii with | 0 | 4=> vv=.pointer (some ⟨Bx,0,none⟩) | 1 | 5 | 10 | 16 | 21 | 25=> vv=.int .i64 (0) | 2 | 3 | 6 | 7 | 8 | 17 | 18 | 26 | 27 | 28 | 29 | 30=> vv=.bool true | 9 | 20=> vv=.pointer (some ⟨Bx,1,none⟩) | 11 | 15 | 24=> vv=.int .i64 ((x:Int)) | 12 | 13=> vv=.bool false | 14 | 19 | 23=> vv=.pointer (some ⟨p,0,none⟩) | 22=> vv=.int .i64 (SA) | 31 | 32 | 33 | 34 | 35 | 36 | 37 | 38 | 39 | 40 | 41 | 42 | 43 | 44 | 45 | 46 | 47 | 48 | 49=> vv=undef | _=> True))
          (fun _ _ _ _ h _=> h) ?_ ?_
         ·refine Each.all ?_
          refine ⟨?_,?_,?_,?_,?_,?_,?_,?_,?_,?_,?_,?_,?_,?_,?_,?_,?_,?_,?_,?_,?_,?_,?_,?_,?_,?_,?_,?_,?_,?_,?_,?_,?_,?_,?_,?_,?_,?_,?_,?_,?_,?_,?_,?_,?_,?_,?_,?_,?_,?_,(fun h=> absurd h (by decide)),trivial⟩
          ·intro _ a w2 hB hF hd
           rw [if_pos (wanted_none rfl)]
           refine flow_val (fun h=> by cases h) (run_field_at (m:=0) (k:=0) rfl (hF.same 26 rfl) (by kernel_rfl)) ?_
           exact rfl
          ·intro _ a w2 hB hF hd
           rw [if_pos (wanted_none rfl)]
           exact flow_val (fun h=> by cases h) (run_load_cell rfl (hd 0 _ rfl (waits_spec rfl)) Try.underlying3 ((hB.cell (p:=⟨Bx,0,none⟩) HXB.out).trans K0.out)) rfl
          ·intro _ a w2 hB hF hd
           rw [if_pos (wanted_none rfl)]
           exact flow_val (fun h=> by cases h) (Go.Bas.run_neq_int rfl (hd 1 _ rfl (waits_spec rfl)) rfl) (congrArg Value.bool (rfl))
          ·intro _ a w2 hB hF hd
           rw [if_pos (wanted_none rfl)]
           exact flow_move _ (.inl rfl) (by simp) (hd 2 _ rfl (waits_spec rfl))
          ·intro _ a w2 hB hF hd
           refine flow_wanted (wanted_yes rfl rfl (hd 3 _ rfl (waits_spec rfl)) rfl) ?_
           refine flow_val (fun h=> by cases h) (run_field_at (m:=0) (k:=0) rfl (hF.same 26 rfl) (by kernel_rfl)) ?_
           exact rfl
          ·intro _ a w2 hB hF hd
           refine flow_wanted (wanted_yes rfl rfl (hd 3 _ rfl (waits_spec rfl)) rfl) ?_
           exact flow_val (fun h=> by cases h) (run_load_cell rfl (hd 4 _ rfl (waits_spec rfl)) Try.underlying3 ((hB.cell (p:=⟨Bx,0,none⟩) HXB.out).trans K0.out)) rfl
          ·intro _ a w2 hB hF hd
           refine flow_wanted (wanted_yes rfl rfl (hd 3 _ rfl (waits_spec rfl)) rfl) ?_
           exact flow_val (fun h=> by cases h) (Go.Bas.run_neq_int rfl (hd 5 _ rfl (waits_spec rfl)) rfl) (congrArg Value.bool (rfl))
          ·intro _ a w2 hB hF hd
           rw [if_pos (wanted_none rfl)]
           exact flow_val (fun h=> by cases h) (run_pick rfl (hd 3 _ rfl (waits_spec rfl))) ((hd 6 _ rfl (waits_spec rfl)))
          ·intro _ a w2 hB hF hd
           rw [if_pos (wanted_none rfl)]
           exact flow_move _ (.inl rfl) (by simp) (hd 7 _ rfl (waits_spec rfl))
          ·intro _ a w2 hB hF hd
           refine flow_wanted (wanted_yes rfl rfl (hd 8 _ rfl (waits_spec rfl)) rfl) ?_
           refine flow_val (fun h=> by cases h) (run_field_at (m:=0) (k:=1) rfl (hF.same 26 rfl) (by kernel_rfl)) ?_
           exact rfl
          ·intro _ a w2 hB hF hd
           refine flow_wanted (wanted_yes rfl rfl (hd 8 _ rfl (waits_spec rfl)) rfl) ?_
           exact flow_val (fun h=> by cases h) (run_load_cell rfl (hd 9 _ rfl (waits_spec rfl)) Try.underlying3 ((hB.cell (p:=⟨Bx,1,none⟩) HXB.out).trans K1.out)) rfl
          ·intro _ a w2 hB hF hd
           refine flow_wanted (wanted_yes rfl rfl (hd 8 _ rfl (waits_spec rfl)) rfl) ?_
           exact flow_move _ (.inl rfl) (by simp) (hF.same 25 rfl)
          ·intro _ a w2 hB hF hd
           refine flow_wanted (wanted_yes rfl rfl (hd 8 _ rfl (waits_spec rfl)) rfl) ?_
           exact flow_val (fun h=> by cases h) (Go.Bas.run_geq rfl (hd 10 _ rfl (waits_spec rfl)) (hd 11 _ rfl (waits_spec rfl))) (congrArg Value.bool (HGE.out))
          ·intro _ a w2 hB hF hd
           refine flow_wanted (wanted_yes rfl rfl (hd 8 _ rfl (waits_spec rfl)) rfl) ?_
           exact flow_move _ (.inl rfl) (by simp) (hd 12 _ rfl (waits_spec rfl))
          ·intro _ a w2 hB hF hd
           refine flow_wanted (wanted_yes rfl rfl (hd 13 _ rfl (waits_spec rfl)) rfl) ?_
           exact flow_val (fun h=> by cases h) (run_load_pt rfl (hF.same 10 rfl) Try.underlying90 ((hB.cell (p:=⟨bs,0,none⟩) SB2.out.lt).trans SB2.out.cell)) rfl
          ·intro _ a w2 hB hF hd
           refine flow_wanted (wanted_yes rfl rfl (hd 13 _ rfl (waits_spec rfl)) rfl) ?_
           exact flow_move _ (.inl rfl) (by simp) (hF.same 25 rfl)
          ·intro _ a w2 hB hF hd
           refine flow_wanted (wanted_yes rfl rfl (hd 13 _ rfl (waits_spec rfl)) rfl) ?_
           refine flow_call _ _ _ rfl Try.call60 _ (args2 (hd 14 _ rfl (waits_spec rfl)) (hd 15 _ rfl (waits_spec rfl))) (by simp) ((HSX.out hB).mono ?_)
           rintro e w3 ⟨rfl,hb⟩;exact ⟨_,rfl,rfl,hb⟩
          ·intro _ a w2 hB hF hd
           refine flow_wanted (wanted_yes rfl rfl (hd 13 _ rfl (waits_spec rfl)) rfl) ?_
           exact flow_val (fun h=> by cases h) (Go.Bas.run_lss rfl (hd 16 _ rfl (waits_spec rfl)) rfl) (congrArg Value.bool (HBIG.out))
          ·intro _ a w2 hB hF hd
           refine flow_wanted (wanted_yes rfl rfl (hd 13 _ rfl (waits_spec rfl)) rfl) ?_
           exact flow_move _ (.inl rfl) (by simp) (hd 17 _ rfl (waits_spec rfl))
          ·intro _ a w2 hB hF hd
           refine flow_wanted (wanted_yes rfl rfl (hd 18 _ rfl (waits_spec rfl)) rfl) ?_
           exact flow_val (fun h=> by cases h) (run_load_pt rfl (hF.same 10 rfl) Try.underlying90 ((hB.cell (p:=⟨bs,0,none⟩) SB2.out.lt).trans SB2.out.cell)) rfl
          ·intro _ a w2 hB hF hd
           refine flow_wanted (wanted_yes rfl rfl (hd 18 _ rfl (waits_spec rfl)) rfl) ?_
           refine flow_val (fun h=> by cases h) (run_field_at (m:=0) (k:=1) rfl (hF.same 26 rfl) (by kernel_rfl)) ?_
           exact rfl
          ·intro _ a w2 hB hF hd
           refine flow_wanted (wanted_yes rfl rfl (hd 18 _ rfl (waits_spec rfl)) rfl) ?_
           exact flow_val (fun h=> by cases h) (run_load_cell rfl (hd 20 _ rfl (waits_spec rfl)) Try.underlying3 ((hB.cell (p:=⟨Bx,1,none⟩) HXB.out).trans K1.out)) rfl
          ·intro _ a w2 hB hF hd
           refine flow_wanted (wanted_yes rfl rfl (hd 18 _ rfl (waits_spec rfl)) rfl) ?_
           refine flow_call _ _ _ rfl Try.call60 _ (args2 (hd 19 _ rfl (waits_spec rfl)) (hd 21 _ rfl (waits_spec rfl))) (by simp) ((HSA.out hB).mono ?_)
           rintro e w3 ⟨rfl,hb⟩;exact ⟨_,rfl,rfl,hb⟩
          ·intro _ a w2 hB hF hd
           refine flow_wanted (wanted_yes rfl rfl (hd 18 _ rfl (waits_spec rfl)) rfl) ?_
           exact flow_val (fun h=> by cases h) (run_load_pt rfl (hF.same 10 rfl) Try.underlying90 ((hB.cell (p:=⟨bs,0,none⟩) SB2.out.lt).trans SB2.out.cell)) rfl
          ·intro _ a w2 hB hF hd
           refine flow_wanted (wanted_yes rfl rfl (hd 18 _ rfl (waits_spec rfl)) rfl) ?_
           exact flow_move _ (.inl rfl) (by simp) (hF.same 25 rfl)
          ·intro _ a w2 hB hF hd
           refine flow_wanted (wanted_yes rfl rfl (hd 18 _ rfl (waits_spec rfl)) rfl) ?_
           refine flow_call _ _ _ rfl Try.call60 _ (args2 (hd 23 _ rfl (waits_spec rfl)) (hd 24 _ rfl (waits_spec rfl))) (by simp) ((HSX.out hB).mono ?_)
           rintro e w3 ⟨rfl,hb⟩;exact ⟨_,rfl,rfl,hb⟩
          ·intro _ a w2 hB hF hd
           refine flow_wanted (wanted_yes rfl rfl (hd 18 _ rfl (waits_spec rfl)) rfl) ?_
           exact flow_val (fun h=> by cases h) (Go.Bas.run_geq rfl (hd 22 _ rfl (waits_spec rfl)) (hd 25 _ rfl (waits_spec rfl))) (congrArg Value.bool (HGS.out))
          ·intro _ a w2 hB hF hd
           refine flow_wanted (wanted_yes rfl rfl (hd 13 _ rfl (waits_spec rfl)) rfl) ?_
           exact flow_val (fun h=> by cases h) (run_pick rfl (hd 18 _ rfl (waits_spec rfl))) ((hd 26 _ rfl (waits_spec rfl)))
          ·intro _ a w2 hB hF hd
           refine flow_wanted (wanted_yes rfl rfl (hd 8 _ rfl (waits_spec rfl)) rfl) ?_
           exact flow_val (fun h=> by cases h) (run_pick rfl (hd 13 _ rfl (waits_spec rfl))) ((hd 27 _ rfl (waits_spec rfl)))
          ·intro _ a w2 hB hF hd
           rw [if_pos (wanted_none rfl)]
           exact flow_val (fun h=> by cases h) (run_pick rfl (hd 8 _ rfl (waits_spec rfl))) ((hd 28 _ rfl (waits_spec rfl)))
          ·intro _ a w2 hB hF hd
           rw [if_pos (wanted_none rfl)]
           exact flow_move _ (.inl rfl) (by simp) (hd 29 _ rfl (waits_spec rfl))
          ·intro _ a w2 hB hF hd
           rw [if_neg (by rw [wanted_some rfl rfl (hd 30 _ rfl (waits_spec rfl))];decide)]
           exact rfl
          ·intro _ a w2 hB hF hd
           rw [if_neg (by rw [wanted_some rfl rfl (hd 30 _ rfl (waits_spec rfl))];decide)]
           exact rfl
          ·intro _ a w2 hB hF hd
           rw [if_neg (by rw [wanted_some rfl rfl (hd 30 _ rfl (waits_spec rfl))];decide)]
           exact rfl
          ·intro _ a w2 hB hF hd
           rw [if_neg (by rw [wanted_some rfl rfl (hd 30 _ rfl (waits_spec rfl))];decide)]
           exact rfl
          ·intro _ a w2 hB hF hd
           rw [if_neg (by rw [wanted_undef rfl rfl (hd 34 _ rfl (waits_spec rfl))];decide)]
           exact rfl
          ·intro _ a w2 hB hF hd
           rw [if_neg (by rw [wanted_undef rfl rfl (hd 34 _ rfl (waits_spec rfl))];decide)]
           exact rfl
          ·intro _ a w2 hB hF hd
           rw [if_neg (by rw [wanted_undef rfl rfl (hd 34 _ rfl (waits_spec rfl))];decide)]
           exact rfl
          ·intro _ a w2 hB hF hd
           rw [if_neg (by rw [wanted_some rfl rfl (hd 30 _ rfl (waits_spec rfl))];decide)]
           exact rfl
          ·intro _ a w2 hB hF hd
           rw [if_neg (by rw [wanted_some rfl rfl (hd 30 _ rfl (waits_spec rfl))];decide)]
           exact rfl
          ·intro _ a w2 hB hF hd
           rw [if_neg (by rw [wanted_undef rfl rfl (hd 39 _ rfl (waits_spec rfl))];decide)]
           exact rfl
          ·intro _ a w2 hB hF hd
           rw [if_neg (by rw [wanted_undef rfl rfl (hd 39 _ rfl (waits_spec rfl))];decide)]
           exact rfl
          ·intro _ a w2 hB hF hd
           rw [if_neg (by rw [wanted_undef rfl rfl (hd 39 _ rfl (waits_spec rfl))];decide)]
           exact rfl
          ·intro _ a w2 hB hF hd
           rw [if_neg (by rw [wanted_some rfl rfl (hd 30 _ rfl (waits_spec rfl))];decide)]
           exact rfl
          ·intro _ a w2 hB hF hd
           rw [if_neg (by rw [wanted_some rfl rfl (hd 30 _ rfl (waits_spec rfl))];decide)]
           exact rfl
          ·intro _ a w2 hB hF hd
           rw [if_neg (by rw [wanted_undef rfl rfl (hd 44 _ rfl (waits_spec rfl))];decide)]
           exact rfl
          ·intro _ a w2 hB hF hd
           rw [if_neg (by rw [wanted_undef rfl rfl (hd 44 _ rfl (waits_spec rfl))];decide)]
           exact rfl
          ·intro _ a w2 hB hF hd
           rw [if_neg (by rw [wanted_undef rfl rfl (hd 44 _ rfl (waits_spec rfl))];decide)]
           exact rfl
          ·intro _ a w2 hB hF hd
           rw [if_neg (by rw [wanted_undef rfl rfl (hd 44 _ rfl (waits_spec rfl))];decide)]
           exact rfl
          ·intro _ a w2 hB hF hd
           rw [if_neg (by rw [wanted_some rfl rfl (hd 30 _ rfl (waits_spec rfl))];decide)]
           exact rfl
         ·intro a w8 hB hF hS
          have ha:=puts_each rfl rfl hF [_,_,_,_,_,_,_,_,_,_,_,_,_,_,_,_,_,_,_,_,_,_,_,_,_,_,_,_,_,_,_,_,_,_,_,_,_,_,_,_,_,_,_,_,_,_,_,_,_,_] rfl ⟨hS 0 _ rfl (by decide),hS 1 _ rfl (by decide),hS 2 _ rfl (by decide),hS 3 _ rfl (by decide),hS 4 _ rfl (by decide),hS 5 _ rfl (by decide),hS 6 _ rfl (by decide),hS 7 _ rfl (by decide),hS 8 _ rfl (by decide),hS 9 _ rfl (by decide),hS 10 _ rfl (by decide),hS 11 _ rfl (by decide),hS 12 _ rfl (by decide),hS 13 _ rfl (by decide),hS 14 _ rfl (by decide),hS 15 _ rfl (by decide),hS 16 _ rfl (by decide),hS 17 _ rfl (by decide),hS 18 _ rfl (by decide),hS 19 _ rfl (by decide),hS 20 _ rfl (by decide),hS 21 _ rfl (by decide),hS 22 _ rfl (by decide),hS 23 _ rfl (by decide),hS 24 _ rfl (by decide),hS 25 _ rfl (by decide),hS 26 _ rfl (by decide),hS 27 _ rfl (by decide),hS 28 _ rfl (by decide),hS 29 _ rfl (by decide),hS 30 _ rfl (by decide),hS 31 _ rfl (by decide),hS 32 _ rfl (by decide),hS 33 _ rfl (by decide),hS 34 _ rfl (by decide),hS 35 _ rfl (by decide),hS 36 _ rfl (by decide),hS 37 _ rfl (by decide),hS 38 _ rfl (by decide),hS 39 _ rfl (by decide),hS 40 _ rfl (by decide),hS 41 _ rfl (by decide),hS 42 _ rfl (by decide),hS 43 _ rfl (by decide),hS 44 _ rfl (by decide),hS 45 _ rfl (by decide),hS 46 _ rfl (by decide),hS 47 _ rfl (by decide),hS 48 _ rfl (by decide),hS 49 _ rfl (by decide),trivial⟩
          simp only [puts,List.take_succ_cons,List.take_zero,Act.put,List.setIfInBounds_toArray,List.set_cons_succ,List.set_cons_zero] at ha
          subst ha
          change tl _ _ _ (_:: []) _ _
          clear hS hF
          refine tl_val (v:=.bool true) rfl (run_pick_t rfl rfl rfl) (tl_nil ?_)
          have X8:=boxed_below XB2.out hB
          have cB9:=X8.cell
          have fB9:=X8.frozen
          have HB8:=Lib.hid hB
          clear hB X8
          simp only [Act.put,List.setIfInBounds_toArray,List.set_cons_succ,List.set_cons_zero]
          gi_wp2_with (fail)
          exact ⟨(KF2.out.trans ((KeepsOthers.of_belowT HB8.out).from _)).trans ((KeepsOthers.setCell _ _ _).from _),HNR.out,rfl⟩
      case stop=>
       rintro D2 cd pre W hD2 ⟨k',hk,rfl⟩ ⟨hI,rfl⟩ hKD2
       exact absurd (by rw [List.length_range]) hI
      case done=>
       rintro D2 ys W hD2 rfl ⟨i1,i2,i3⟩ hKD2
       have X8:=boxed_chg OA.out.x i1 (fun h=> by have h1:B=mm:=h;have:=HBM.out.2;omega)
       have c2:=X8.cell
       have f2:=X8.frozen
       have HDm:=Lib.hid (show D<wA.heap.size from (Array.getElem?_eq_some_iff.1 OA.out.df).1)
       have hdm:D≠mm:=fun e=> by
        obtain ⟨Dm,⟨es,ck,h1,_⟩,_⟩:=OA.out.mp
        have h2:=OA.out.df
        rw [e,h1] at h2
        cases h2
       have hdB:B≠D:=fun e=> by
        have h1:=OA.out.df
        have h2:wA.heap[B]? =some (.cells #[.bool false] 4 (0,0)):=OA.out.x
        rw [←e,h2] at h1
        cases h1
       have hd2B:B≠D2:=by have:=OA.out.x.lt;omega
       have hdd:D≠D2:=by have:=HDm.out;omega
       have hKD1:W.heap[D]? =some (.deferred (some [])):=(i1.block D HDm.out (fun h=> hdm h)).trans OA.out.df
       have HK2:Hid ((W.setCell ⟨B,0,none⟩ (.bool true)).heap[D2]? =some (.deferred (some []))):=Lib.hid ((heap_setCell_other W ⟨B,0,none⟩ D2 _ (Ne.symm hd2B)).trans hKD2)
       have HK1:Hid (((W.setCell ⟨B,0,none⟩ (.bool true)).putObj D2 (.deferred none)).heap[D]? =some (.deferred (some []))):=Lib.hid ((World.putObj_heap_other hdd).trans ((heap_setCell_other W ⟨B,0,none⟩ D _ (Ne.symm hdB)).trans hKD1))
       have E2:Hid ((((W.setCell ⟨B,0,none⟩ (.bool true)).putObj D2 (.deferred none)).putObj D (.deferred none)).cell? ⟨B,0,none⟩=some (.bool true)):=Lib.hid ((World.cell?_of_block (a:=⟨B,0,none⟩) (World.putObj_heap_other hdB)).trans ((World.cell?_of_block (a:=⟨B,0,none⟩) (World.putObj_heap_other hd2B)).trans (X8.set (.bool true)).cell))
       have HB9:Hid (Below B w (((W.setCell ⟨B,0,none⟩ (.bool true)).putObj D2 (.deferred none)).putObj D (.deferred none))):=Lib.hid (by
        have hBW:B≤W.heap.size:=Nat.le_of_lt X8.lt
        have h1:Below B w W:=OA.out.b.trans (i1.below (Nat.le_of_lt OA.out.x.lt) fun b hb=> by have h1:b=mm:=hb;have:=HBM.out.2;omega)
        have h2:=(h1.setCell (Nat.le_refl _) (p:=⟨B,0,none⟩) (.bool true)).grown (grownBy_putObj' _ D2 (.deferred none)) (by rw [size_setCell];exact hBW) (fun k e=> by cases e;have:=OA.out.x.lt;omega)
        exact h2.grown (grownBy_putObj' _ D (.deferred none)) (by rw [World.putObj_size,size_setCell];exact hBW) (fun k e=> by cases e;exact HD.out))
       clear i1 i2 i3 hstop hdm hdB hd2B hdd hKD1 X8 hKD2
       go_wp2
       have e2:=E2.out
       refine ⟨by simp,.inl ⟨_,_,rfl,run_takeDeferred HK2.out,?_⟩⟩
       refine ⟨by simp,.inl ⟨_,_,rfl,run_takeDeferred HK1.out,?_⟩⟩
       exact ⟨.bool true,by simp [results,Try.results12,go_sem,e2],rfl,HB9.out⟩
end Go.Proofs.Ytlmdgmgbijfaoaa
